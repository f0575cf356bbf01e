/- The text of what is known: plain Lean; the walks of stats.one and stats.Text. -/
import Derived.Test.YtdfbfhgjpihkiaaDoorSlim
import Derived.Test.YtdfbfhgjpihkiaaDoorMMay
import Derived.Test.YtdfbfhgjpihkiaaDoorMWire
import Derived.Deep.RegionHeld3
namespace Go.Proofs.YtdfbfhgjpihkiaaDoor
set_option linter.unusedVariables false
open Go Go.RowKit Go.ChangeShapes

theorem isV_iff1 (k : Int) (x : Val) : isV k x = true ↔ OkP k x ∧ 1 ≤ k ∧ k ≤ 5 := by
  unfold isV
  rw [Bool.and_eq_true, decide_eq_true_iff, okB_iff]
  exact ⟨fun ⟨a, b⟩ => ⟨b, a.1, a.2⟩, fun ⟨a, b, c⟩ => ⟨⟨b, c⟩, a⟩⟩
theorem isV_err (v : Val) : isV v.k v = true ↔ valsErr v.k [v] = .nil := by
  rw [isV_iff1]
  constructor
  · rintro ⟨h, h1, h5⟩
    unfold valsErr
    rw [if_neg (by omega), if_neg (by simp), (badAt_none v.k [v] 0).2 (by intro x hx; simp at hx; subst hx; exact h)]
  · intro h
    obtain ⟨h1, h5, _, h4⟩ := valsErr_nil h
    exact ⟨h4 v (by simp), h1, h5⟩
/-- one value's text -/
def oneText (v : Val) : List UInt8 := textOf (plainB v.k [v])
/-- the text -/
def stText (s : St) : List UInt8 := (seven s.e.toNat ++ seven s.n.toNat) ++ (if (s.has && (isV s.lo.k s.lo && isV s.hi.k s.hi)) = true then 1 :: UInt8.ofNat s.lo.k.toNat :: (oneText s.lo ++ oneText s.hi) else [0])
theorem textOf_length (l : List UInt8) (h : l.length < 18446744073709551616) : (textOf l).length ≤ l.length + 10 := by
  unfold textOf
  have := seven_len (n := l.length) h
  simp
  omega
theorem plainB_one (v : Val) (hs : v.s.size ≤ 1000000) : (plainB v.k [v]).length ≤ v.s.size + 18 := by
  unfold plainB
  split
  · have := textOf_length v.s.data.toList (by simp; omega)
    simp [textsB] at this ⊢
    omega
  · have h2 := wdOf_le v.k
    unfold packed
    rw [bytesOf_len]
    simp [numsOf]
    omega

set_option maxRecDepth 100000 in
set_option maxHeartbeats 4000000 in
theorem one_any (v : Val) (hv : v.Ok) (hs : v.s.size ≤ 1000000) (w : World) (adr : Nat → Addr) (hE : ErrsAt w adr [2, 4]) :
    Calls Tryd.prog 92 #[.agg (valA v)] w fun e w' => (∃ t, e = .returned (.tuple #[.string t, .bool (isV v.k v)]) ∧ (isV v.k v = true → t = ⟨(oneText v).toArray⟩)) ∧ Below w.heap.size w w' := by
  have HE := Lib.hid hE
  have HO := Lib.hid (show ∀ y ∈ [v], y.Ok from by intro y hy; simp at hy; subst hy; exact hv)
  clear hv hE
  cases hi : isV v.k v with
  | true =>
    have HN := Lib.hid ((isV_err v).1 hi)
    have HT := Lib.hid (fun w1 => text_any ⟨(plainB v.k [v]).toArray⟩ w1 (by have := plainB_one v hs; show (plainB v.k [v]).toArray.size ≤ _; simp; omega))
    clear hi hs
    unfold valA
    go_enter Tryd.func92, Tryd.ntmps92
    go_upto_region 1 with fail
    obtain ⟨rA, hbw, hz⟩ := rows1 (w := w) (A := (.cells #[.int .i64 v.k, .int .i64 v.n, .string v.s] 29)) (Below.refl _ _)
    have cA := rowc rA
    have Hw0 := Lib.hid hbw; have RA := Lib.hid rA
    clear rA hbw
    generalize w.alloc (.cells #[.int .i64 v.k, .int .i64 v.n, .string v.s] 29) = w0 at *
    have Hw := Lib.hid (Hw0.out.alloc Hw0.out.size (.cells #[.int .i64 v.k, .int .i64 v.n, .string v.s] 29))
    go_wp2_with fail
    refine (Plain_ok v.k _ [v] _ adr (HE.out.below Hw.out) (one_vals (Below.refl _ _)) HO.out HN.out).mono ?_; rintro e w1 ⟨rfl, hb1⟩
    replace RA := Lib.hid (row_keep hb1 ((Lib.alloc_old w0 (.cells #[.int .i64 v.k, .int .i64 v.n, .string v.s] 29) _ (row_lt RA.out)).trans RA.out))
    have Hb1 := Lib.hid (Hw.out.trans (hb1.mono Hw.out.size))
    clear hb1
    go_upto_region 2 with fail
    have HB := Lib.hid (Below.refl w1.heap.size w1)
    go_region_held3 (fun w' => ∀ j, w'.cell? ⟨w.heap.size, j, none⟩ = (#[.int .i64 v.k, .int .i64 v.n, .string v.s] : Array Value)[j]?) (first | (with_reducible exact rowc RA.out) | (with_reducible exact rowc_drew RA.out))
      (first
      | (go_at_call 56; (with_reducible refine (HT.out _).mono ?_); rintro e w9 ⟨rfl, hb9⟩; (first | (with_reducible have hbs := drew_first hb9) | (have hbs := hb9)); replace RA := Lib.hid (row_keep hbs RA.out); replace HB := Lib.hid (HB.out.trans (hbs.mono HB.out.size)); clear hb9 hbs))
    all_goals
      go_wp2_with fail
      go_ret2
      exact ⟨⟨_, rfl, fun _ => rfl⟩, Hb1.out.trans (HB.out.mono Hb1.out.size)⟩
  | false =>
    have HN := Lib.hid (show valsErr v.k [v] ≠ .nil from fun h => by rw [(isV_err v).2 h] at hi; cases hi)
    have HT := Lib.hid (fun w1 => text_any ⟨#[]⟩ w1 (by decide))
    clear hi hs
    unfold valA
    go_enter Tryd.func92, Tryd.ntmps92
    go_upto_region 1 with fail
    obtain ⟨rA, hbw, hz⟩ := rows1 (w := w) (A := (.cells #[.int .i64 v.k, .int .i64 v.n, .string v.s] 29)) (Below.refl _ _)
    have cA := rowc rA
    have Hw0 := Lib.hid hbw; have RA := Lib.hid rA
    clear rA hbw
    generalize w.alloc (.cells #[.int .i64 v.k, .int .i64 v.n, .string v.s] 29) = w0 at *
    have Hw := Lib.hid (Hw0.out.alloc Hw0.out.size (.cells #[.int .i64 v.k, .int .i64 v.n, .string v.s] 29))
    go_wp2_with fail
    refine (Plain_err v.k _ [v] _ adr (HE.out.below Hw.out) (one_vals (Below.refl _ _)) HO.out HN.out).mono ?_; rintro e w1 ⟨⟨u, rfl, hu⟩, hb1⟩
    replace RA := Lib.hid (row_keep hb1 ((Lib.alloc_old w0 (.cells #[.int .i64 v.k, .int .i64 v.n, .string v.s] 29) _ (row_lt RA.out)).trans RA.out))
    have Hb1 := Lib.hid (Hw.out.trans (hb1.mono Hw.out.size))
    obtain ⟨T, ad, rfl, hT⟩ := hu.some' HN.out
    clear hb1 hu
    rcases hT with rfl | rfl
    all_goals
      go_upto_region 2 with fail
      have HB := Lib.hid (Below.refl w1.heap.size w1)
      go_region_held3 (fun w' => ∀ j, w'.cell? ⟨w.heap.size, j, none⟩ = (#[.int .i64 v.k, .int .i64 v.n, .string v.s] : Array Value)[j]?) (first | (with_reducible exact rowc RA.out) | (with_reducible exact rowc_drew RA.out))
        (first
        | (go_at_call 56; (with_reducible refine (HT.out _).mono ?_); rintro e w9 ⟨rfl, hb9⟩; (first | (with_reducible have hbs := drew_first hb9) | (have hbs := hb9)); replace RA := Lib.hid (row_keep hbs RA.out); replace HB := Lib.hid (HB.out.trans (hbs.mono HB.out.size)); clear hb9 hbs))
      all_goals
        go_wp2_with fail
        go_ret2
        exact ⟨⟨_, rfl, fun h => by cases h⟩, Hb1.out.trans (HB.out.mono Hb1.out.size)⟩
theorem seven_small (n : Nat) (h : n < 18446744073709551616) : (seven n).length ≤ 10 := seven_len h
/-- the two numbers ahead -/
def cntText (e n : Int) : ByteArray := ⟨(seven e.toNat ++ seven n.toNat).toArray⟩

set_option maxRecDepth 100000 in
set_option maxHeartbeats 8000000 in
theorem text_st (a : St) (ha : a.Ok) (h1 : a.lo.s.size ≤ 1000000) (h2 : a.hi.s.size ≤ 1000000) (w : World) (adr : Nat → Addr) (hE : ErrsAt w adr [2, 4]) :
    Calls Tryd.prog 55 #[.agg (stA a)] w fun e w' => e = .returned (.string ⟨(stText a).toArray⟩) ∧ Below w.heap.size w w' := by
  have H1 := Lib.hid (fun (w1 : World) (h : Below w.heap.size w w1) => one_any a.lo ha.lo h1 w1 adr (hE.below h))
  have H2 := Lib.hid (fun (w1 : World) (h : Below w.heap.size w w1) => one_any a.hi ha.hi h2 w1 adr (hE.below h))
  have HU := Lib.hid (fun (n : Int) (h : -9223372036854775808 ≤ n ∧ n < 9223372036854775808) (w1 : World) => show Calls Tryd.prog 59 #[.int .u64 (IntKind.u64.wrap (max 0 n))] w1 fun e w' => e = .returned (.string ⟨(seven n.toNat).toArray⟩) ∧ Below w1.heap.size w1 w' from by rw [show IntKind.u64.wrap (max 0 n) = max 0 n from by rw [IntKind.wrap_u64]; omega]; exact (uvarint_any (max 0 n) w1 (by omega) (by omega)).mono fun e w' h => (by rw [show (max 0 n).toNat = n.toNat by omega] at h; exact h))
  have hbe : -9223372036854775808 ≤ a.e ∧ a.e < 9223372036854775808 := ⟨ha.e0, ha.e1⟩
  have hbn : -9223372036854775808 ≤ a.n ∧ a.n < 9223372036854775808 := ⟨ha.n0, ha.n1⟩
  have hst : stText a = (seven a.e.toNat ++ seven a.n.toNat) ++ (if (a.has && (isV a.lo.k a.lo && isV a.hi.k a.hi)) = true then 1 :: UInt8.ofNat a.lo.k.toNat :: (oneText a.lo ++ oneText a.hi) else [0]) := rfl
  have hk : isV a.lo.k a.lo = true → 1 ≤ a.lo.k ∧ a.lo.k ≤ 5 := fun h => ((isV_iff1 _ _).1 h).2
  have hz1 : (oneText a.lo).length ≤ 2000000 := by
    have := plainB_one a.lo h1
    have := textOf_length (plainB a.lo.k [a.lo]) (by omega)
    unfold oneText; omega
  have hz2 : (oneText a.hi).length ≤ 2000000 := by
    have := plainB_one a.hi h2
    have := textOf_length (plainB a.hi.k [a.hi]) (by omega)
    unfold oneText; omega
  have hz3 : (seven a.e.toNat).length ≤ 10 := seven_len (by omega)
  have hz4 : (seven a.n.toNat).length ≤ 10 := seven_len (by omega)
  rw [hst]
  clear hst ha hE h1 h2
  obtain ⟨ae, an, ah, al, aH⟩ := a
  simp only at hbe hbn hk hz1 hz2 hz3 hz4 H1 H2 ⊢
  simp only [stA]
  unfold valA at H1 H2
  generalize isV al.k al = il at *
  generalize isV aH.k aH = iH at *
  generalize oneText al = A1 at *
  generalize oneText aH = A2 at *
  have hL : (seven ae.toNat ++ seven an.toNat).length ≤ 20 := by rw [List.length_append]; omega
  obtain ⟨L, hLe⟩ : ∃ L, seven ae.toNat ++ seven an.toNat = L := ⟨_, rfl⟩
  have HLe := Lib.hid hLe
  rw [hLe] at hL ⊢
  clear hLe
  go_enter Tryd.func55, Tryd.ntmps55
  go_upto_region 1 with fail
  obtain ⟨rA, hbw, hz⟩ := rows1 (w := w) (A := .cells #[.int .i64 ae, .int .i64 an, .bool ah, .int .i64 al.k, .int .i64 al.n, .string al.s, .int .i64 aH.k, .int .i64 aH.n, .string aH.s] 33) (Below.refl _ _)
  have RA := Lib.hid rA; have Hbw := Lib.hid hbw
  have cA := rowc rA
  clear rA hbw hz
  generalize w.alloc (.cells #[.int .i64 ae, .int .i64 an, .bool ah, .int .i64 al.k, .int .i64 al.n, .string al.s, .int .i64 aH.k, .int .i64 aH.n, .string aH.s] 33) = w0 at *
  go_cut [3] (fun s wx => s = .string ⟨L.toArray⟩ ∧ Below w0.heap.size w0 wx)
  case first =>
    have HB := Lib.hid (Below.refl w0.heap.size w0)
    have hq1 : ¬ 9223372036854775807 < (seven ae.toNat).length + (seven an.toNat).length := by omega
    go_region_held3 (fun w' => ∀ j, w'.cell? ⟨w.heap.size, j, none⟩ = (#[.int .i64 ae, .int .i64 an, .bool ah, .int .i64 al.k, .int .i64 al.n, .string al.s, .int .i64 aH.k, .int .i64 aH.n, .string aH.s] : Array Value)[j]?) (first | (with_reducible exact rowc RA.out) | (with_reducible exact rowc_drew RA.out))
      (first
      | (go_at_call 59; (with_reducible refine (HU.out ae hbe _).mono ?_); rintro e w9 ⟨rfl, hb9⟩; (first | (with_reducible have hbs := drew_first hb9) | (have hbs := hb9)); replace RA := Lib.hid (row_keep hbs RA.out); replace HB := Lib.hid (HB.out.trans (hbs.mono HB.out.size)); clear hb9 hbs)
      | (go_at_call 59; (with_reducible refine (HU.out an hbn _).mono ?_); rintro e w9 ⟨rfl, hb9⟩; (first | (with_reducible have hbs := drew_first hb9) | (have hbs := hb9)); replace RA := Lib.hid (row_keep hbs RA.out); replace HB := Lib.hid (HB.out.trans (hbs.mono HB.out.size)); clear hb9 hbs))
    all_goals (go_wp2_with fail; go_meet)
    all_goals (exact ⟨congrArg Value.string (by rw [ByteArray.mk_append_mk, HLe.out]), HB.out⟩)
  case rest =>
    obtain ⟨rfl, hbx⟩ := hcut
    have RAx := Lib.hid (row_keep hbx RA.out); replace Hbw := Lib.hid (Hbw.out.trans (hbx.mono Hbw.out.size))
    clear RA cA hbx
    have cA := rowc RAx.out
    go_wp2_with fail
    refine (H1.out _ Hbw.out).mono ?_; rintro e w2 ⟨⟨t1, rfl, ht1⟩, hb2⟩
    replace RAx := Lib.hid (row_keep hb2 RAx.out); replace Hbw := Lib.hid (Hbw.out.trans (hb2.mono Hbw.out.size))
    have HT1 := Lib.hid ht1
    clear hb2 cA ht1
    have cA := rowc RAx.out
    go_wp2_with fail
    refine (H2.out _ Hbw.out).mono ?_; rintro e w3 ⟨⟨t2, rfl, ht2⟩, hb3⟩
    replace RAx := Lib.hid (row_keep hb3 RAx.out); replace Hbw := Lib.hid (Hbw.out.trans (hb3.mono Hbw.out.size))
    have HT2 := Lib.hid ht2
    clear hb3 cA ht2
    have cA := rowc RAx.out
    clear H1 H2 HU hz3 hz4
    have hq0 : ¬ 9223372036854775807 < L.length + 1 := by omega
    cases ah with
    | false =>
      go_wp2_with fail
      go_ret
      exact ⟨ret_of (congrArg Value.string (by rw [ByteArray.mk_append_mk])), Hbw.out⟩
    | true =>
      cases il with
      | false =>
        go_wp2_with fail
        go_ret
        exact ⟨ret_of (congrArg Value.string (by rw [ByteArray.mk_append_mk])), Hbw.out⟩
      | true =>
        obtain rfl := HT1.out rfl
        obtain ⟨hk1, hk5⟩ := hk rfl
        cases iH with
        | false =>
          go_wp2_with fail
          go_ret
          exact ⟨ret_of (congrArg Value.string (by rw [ByteArray.mk_append_mk])), Hbw.out⟩
        | true =>
          obtain rfl := HT2.out rfl
          have hs := run_lit_string (P := Tryd.prog) (src := 59) (dst := 9) w3 al.k Tryd.underlying59 Tryd.underlying5 Tryd.underlying9 (by omega) (by omega)
          have hw8 : IntKind.u8.wrap al.k = al.k := by rw [IntKind.wrap_u8]; omega
          clear HT1 HT2 hk
          go_wp2_with fail
          go_ret
          refine ⟨ret_of (congrArg Value.string (?_ : ((((⟨L.toArray⟩ : ByteArray) ++ ⟨([1] : List UInt8).toArray⟩) ++ ⟨([UInt8.ofNat al.k.toNat] : List UInt8).toArray⟩) ++ ⟨A1.toArray⟩) ++ ⟨A2.toArray⟩ = _)), Hbw.out.alloc Hbw.out.size _⟩
          rw [ByteArray.mk_append_mk, ByteArray.mk_append_mk, ByteArray.mk_append_mk, ByteArray.mk_append_mk]
          simp
end Go.Proofs.YtdfbfhgjpihkiaaDoor
