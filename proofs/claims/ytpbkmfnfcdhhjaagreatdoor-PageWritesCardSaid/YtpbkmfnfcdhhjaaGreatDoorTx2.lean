/- The walk of the document's StatsText. -/
import Derived.Test.YtpbkmfnfcdhhjaaGreatDoorTx1
import Derived.Test.YtpbkmfnfcdhhjaaGreatDoorMRef
namespace Go.Proofs.YtpbkmfnfcdhhjaaGreatDoor
set_option linter.unusedVariables false
open Go Go.RowKit Go.ChangeShapes

set_option maxRecDepth 100000 in
set_option maxHeartbeats 1000000 in
theorem count_any (n : Int) (h : -9223372036854775808 ≤ n ∧ n < 9223372036854775808) (w : World) :
    Calls Tryz.prog 88 #[.int .i64 n] w fun e w' => e = .returned (.string ⟨(seven n.toNat).toArray⟩) ∧ Below w.heap.size w w' := by
  by_cases h0 : n < 0
  · have H := Lib.hid (fun w1 => sevenOf_any 0 w1 (by omega) (by omega))
    have e : n.toNat = 0 := by omega
    rw [e]
    clear e h
    go_enter Tryz.func88, Tryz.ntmps88
    go_wp2_with fail
    refine (H.out _).mono ?_; rintro e w1 ⟨rfl, hb1⟩
    go_wp2_with fail
    go_ret
    exact ⟨rfl, hb1⟩
  · have h0' : 0 ≤ n := by omega
    have hw : IntKind.u64.wrap n = n := by rw [IntKind.wrap_u64]; omega
    have H := Lib.hid (fun w1 => sevenOf_any n w1 (by omega) (by omega))
    clear h
    go_enter Tryz.func88, Tryz.ntmps88
    go_wp2_with fail
    refine (H.out _).mono ?_; rintro e w1 ⟨rfl, hb1⟩
    go_wp2_with fail
    go_ret
    exact ⟨rfl, hb1⟩

set_option maxRecDepth 100000 in
set_option maxHeartbeats 8000000 in
theorem statsText_st (a : St) (ha : a.Ok) (h1 : a.lo.s.size ≤ 1000000) (h2 : a.hi.s.size ≤ 1000000) (w : World) :
    Calls Tryz.prog 42 #[.agg (stA a)] w fun e w' => e = .returned (.string ⟨(stText a).toArray⟩) ∧ Below w.heap.size w w' := by
  have HI1 := Lib.hid (fun w1 => isValue_any a.lo.k a.lo ha.lo w1)
  have HI2 := Lib.hid (fun w1 => isValue_any a.hi.k a.hi ha.hi w1)
  have HP1 : Hid (isV a.lo.k a.lo = true → ∀ v w1, IsVals w1 v [a.lo] → Calls Tryz.prog 83 #[.int .i64 a.lo.k, v] w1 fun e w' => e = .returned (.string ⟨(plainB a.lo.k [a.lo]).toArray⟩) ∧ Below w1.heap.size w1 w') := Lib.hid (fun h v w1 hv => plainOf_any a.lo.k v [a.lo] w1 hv (by simp) ((isV_iff1 _ _).1 h).2.1 ((isV_iff1 _ _).1 h).2.2 (by intro x hx; simp at hx; subst hx; exact ((isV_iff1 _ _).1 h).1))
  have HP2 : Hid (isV a.hi.k a.hi = true → ∀ v w1, IsVals w1 v [a.hi] → Calls Tryz.prog 83 #[.int .i64 a.hi.k, v] w1 fun e w' => e = .returned (.string ⟨(plainB a.hi.k [a.hi]).toArray⟩) ∧ Below w1.heap.size w1 w') := Lib.hid (fun h v w1 hv => plainOf_any a.hi.k v [a.hi] w1 hv (by simp) ((isV_iff1 _ _).1 h).2.1 ((isV_iff1 _ _).1 h).2.2 (by intro x hx; simp at hx; subst hx; exact ((isV_iff1 _ _).1 h).1))
  have HL1 := Lib.hid (fun w1 => show Calls Tryz.prog 44 #[.string ⟨(plainB a.lo.k [a.lo]).toArray⟩] w1 fun e w' => e = .returned (.string ⟨(oneText a.lo).toArray⟩) ∧ Below w1.heap.size w1 w' from (long_any ⟨(plainB a.lo.k [a.lo]).toArray⟩ w1 (by have := plainB_one a.lo h1; show (plainB a.lo.k [a.lo]).toArray.size ≤ _; simp; omega)).mono fun _ _ h => h)
  have HL2 := Lib.hid (fun w1 => show Calls Tryz.prog 44 #[.string ⟨(plainB a.hi.k [a.hi]).toArray⟩] w1 fun e w' => e = .returned (.string ⟨(oneText a.hi).toArray⟩) ∧ Below w1.heap.size w1 w' from (long_any ⟨(plainB a.hi.k [a.hi]).toArray⟩ w1 (by have := plainB_one a.hi h2; show (plainB a.hi.k [a.hi]).toArray.size ≤ _; simp; omega)).mono fun _ _ h => h)
  have HB0 := Lib.hid (fun w1 => byte_any 0 w1)
  have HB1 := Lib.hid (fun w1 => byte_any 1 w1)
  have HBk := Lib.hid (fun w1 => byte_any a.lo.k w1)
  have hbe : -9223372036854775808 ≤ a.e ∧ a.e < 9223372036854775808 := ⟨ha.e0, ha.e1⟩
  have hbn : -9223372036854775808 ≤ a.n ∧ a.n < 9223372036854775808 := ⟨ha.n0, ha.n1⟩
  have hst : stText a = (seven a.e.toNat ++ seven a.n.toNat) ++ (if (a.has && (isV a.lo.k a.lo && isV a.hi.k a.hi)) = true then 1 :: UInt8.ofNat a.lo.k.toNat :: (oneText a.lo ++ oneText a.hi) else [0]) := rfl
  have Hk := Lib.hid (show isV a.lo.k a.lo = true → 1 ≤ a.lo.k ∧ a.lo.k ≤ 5 from fun h => ((isV_iff1 _ _).1 h).2)
  have hz1 : (oneText a.lo).length ≤ 2000000 := by
    have := plainB_one a.lo h1
    have := textOf_length (plainB a.lo.k [a.lo]) (by omega)
    unfold oneText; omega
  have hz2 : (oneText a.hi).length ≤ 2000000 := by
    have := plainB_one a.hi h2
    have := textOf_length (plainB a.hi.k [a.hi]) (by omega)
    unfold oneText; omega
  have hz3 : (seven a.e.toNat).length ≤ 10 := seven_len (by omega)
  have hz4 : (seven a.n.toNat).length ≤ 10 := seven_len (by omega)
  rw [hst]
  clear hst ha h1 h2
  obtain ⟨ae, an, ah, al, aH⟩ := a
  simp only at hbe hbn Hk hz1 hz2 hz3 hz4 HI1 HI2 HP1 HP2 HL1 HL2 HBk ⊢
  simp only [stA]
  unfold valA at HI1 HI2
  generalize isV al.k al = il at *
  generalize isV aH.k aH = iH at *
  generalize oneText al = A1 at *
  generalize oneText aH = A2 at *
  generalize plainB al.k [al] = P1 at *
  generalize plainB aH.k [aH] = P2 at *
  have hL : (seven ae.toNat ++ seven an.toNat).length ≤ 20 := by rw [List.length_append]; omega
  obtain ⟨L, hLe⟩ : ∃ L, seven ae.toNat ++ seven an.toNat = L := ⟨_, rfl⟩
  have HLe := Lib.hid hLe
  rw [hLe] at hL ⊢
  clear hLe
  have HC := Lib.hid (fun n h w1 => count_any n h w1)
  go_enter Tryz.func42, Tryz.ntmps42
  go_upto_region 1 with fail
  obtain ⟨rA, hbw, hz⟩ := rows1 (w := w) (A := .cells #[.int .i64 ae, .int .i64 an, .bool ah, .int .i64 al.k, .int .i64 al.n, .string al.s, .int .i64 aH.k, .int .i64 aH.n, .string aH.s] 56) (Below.refl _ _)
  have RA := Lib.hid rA; have Hbw := Lib.hid hbw
  have cA := rowc rA
  clear rA hbw hz
  generalize w.alloc (.cells #[.int .i64 ae, .int .i64 an, .bool ah, .int .i64 al.k, .int .i64 al.n, .string al.s, .int .i64 aH.k, .int .i64 aH.n, .string aH.s] 56) = w0 at *
  go_cut [3] (fun s wx => s = .string ⟨L.toArray⟩ ∧ Below w0.heap.size w0 wx)
  case first =>
    have HB := Lib.hid (Below.refl w0.heap.size w0)
    have hq1 : ¬ 9223372036854775807 < (seven ae.toNat).length + (seven an.toNat).length := by omega
    go_region_held3 (fun w' => ∀ j, w'.cell? ⟨w.heap.size, j, none⟩ = (#[.int .i64 ae, .int .i64 an, .bool ah, .int .i64 al.k, .int .i64 al.n, .string al.s, .int .i64 aH.k, .int .i64 aH.n, .string aH.s] : Array Value)[j]?) (first | (with_reducible exact rowc RA.out) | (with_reducible exact rowc_drew RA.out))
      (first
      | (go_at_call 88; (with_reducible refine (HC.out ae hbe _).mono ?_); rintro e w9 ⟨rfl, hb9⟩; (first | (with_reducible have hbs := drew_first hb9) | (have hbs := hb9)); replace RA := Lib.hid (row_keep hbs RA.out); replace HB := Lib.hid (HB.out.trans (hbs.mono HB.out.size)); clear hb9 hbs)
      | (go_at_call 88; (with_reducible refine (HC.out an hbn _).mono ?_); rintro e w9 ⟨rfl, hb9⟩; (first | (with_reducible have hbs := drew_first hb9) | (have hbs := hb9)); replace RA := Lib.hid (row_keep hbs RA.out); replace HB := Lib.hid (HB.out.trans (hbs.mono HB.out.size)); clear hb9 hbs))
    all_goals (go_wp2_with fail; go_meet)
    all_goals (exact ⟨congrArg Value.string (by rw [ByteArray.mk_append_mk, HLe.out]), HB.out⟩)
  case rest =>
    obtain ⟨rfl, hbx⟩ := hcut
    have RAx := Lib.hid (row_keep hbx RA.out); replace Hbw := Lib.hid (Hbw.out.trans (hbx.mono Hbw.out.size))
    clear RA cA hbx
    have cA := rowc RAx.out
    go_wp2_with fail
    refine (HI1.out _).mono ?_; rintro e w2 ⟨rfl, hb2⟩
    replace RAx := Lib.hid (row_keep hb2 RAx.out); replace Hbw := Lib.hid (Hbw.out.trans (hb2.mono Hbw.out.size))
    clear hb2 cA
    have cA := rowc RAx.out
    go_wp2_with fail
    refine (HI2.out _).mono ?_; rintro e w3 ⟨rfl, hb3⟩
    replace RAx := Lib.hid (row_keep hb3 RAx.out); replace Hbw := Lib.hid (Hbw.out.trans (hb3.mono Hbw.out.size))
    clear hb3 cA
    have cA := rowc RAx.out
    clear HI1 HI2 HC hz3 hz4
    have hq0 : ¬ 9223372036854775807 < L.length + 1 := by omega
    by_cases hall : ah = true ∧ il = true ∧ iH = true
    · obtain ⟨rfl, rfl, rfl⟩ := hall
      replace HP1 := Lib.hid (HP1.out rfl); replace HP2 := Lib.hid (HP2.out rfl)
      obtain ⟨hk1, hk5⟩ := Hk.out rfl
      go_wp2_with fail
      refine (HP1.out _ _ (one_vals (Below.refl _ _))).mono ?_; rintro e w4 ⟨rfl, hb4⟩
      have hV4 := (Below.refl w3.heap.size w3).alloc (Nat.le_refl _) (.cells #[.int .i64 al.k, .int .i64 al.n, .string al.s] 51) |>.trans (hb4.mono (by simp))
      replace RAx := Lib.hid (row_keep hV4 RAx.out); replace Hbw := Lib.hid (Hbw.out.trans (hV4.mono Hbw.out.size))
      clear hb4 hV4 cA
      have cA := rowc RAx.out
      go_wp2_with fail
      refine (HP2.out _ _ (one_vals (Below.refl _ _))).mono ?_; rintro e w5 ⟨rfl, hb5⟩
      have hV5 := (Below.refl w4.heap.size w4).alloc (Nat.le_refl _) (.cells #[.int .i64 aH.k, .int .i64 aH.n, .string aH.s] 51) |>.trans (hb5.mono (by simp))
      replace RAx := Lib.hid (row_keep hV5 RAx.out); replace Hbw := Lib.hid (Hbw.out.trans (hV5.mono Hbw.out.size))
      clear hb5 hV5 cA
      go_wp2_with fail
      refine (HB1.out _).mono ?_; rintro e w6 ⟨rfl, hb6⟩
      replace Hbw := Lib.hid (Hbw.out.trans (hb6.mono Hbw.out.size)); clear hb6
      go_wp2_with fail
      refine (HBk.out _).mono ?_; rintro e w7 ⟨rfl, hb7⟩
      replace Hbw := Lib.hid (Hbw.out.trans (hb7.mono Hbw.out.size)); clear hb7
      go_wp2_with fail
      refine (HL1.out _).mono ?_; rintro e w8 ⟨rfl, hb8⟩
      replace Hbw := Lib.hid (Hbw.out.trans (hb8.mono Hbw.out.size)); clear hb8
      go_wp2_with fail
      refine (HL2.out _).mono ?_; rintro e w9 ⟨rfl, hb9⟩
      replace Hbw := Lib.hid (Hbw.out.trans (hb9.mono Hbw.out.size)); clear hb9
      go_wp2_with fail
      go_ret
      refine ⟨ret_of (congrArg Value.string (?_ : ((((⟨L.toArray⟩ : ByteArray) ++ ⟨([1] : List UInt8).toArray⟩) ++ ⟨([UInt8.ofNat (al.k % 256).toNat] : List UInt8).toArray⟩) ++ ⟨A1.toArray⟩) ++ ⟨A2.toArray⟩ = _)), Hbw.out⟩
      rw [ByteArray.mk_append_mk, ByteArray.mk_append_mk, ByteArray.mk_append_mk, ByteArray.mk_append_mk, show al.k % 256 = al.k by omega]
      simp
    · have hno : (ah && (il && iH)) = false := by cases ah <;> cases il <;> cases iH <;> simp_all
      clear hall
      cases ah <;> cases il <;> cases iH <;> first | (exfalso; revert hno; decide) | skip
      all_goals
        clear hno
        go_wp2_with fail
        refine (HB0.out _).mono ?_; rintro e w4 ⟨rfl, hb4⟩
        replace Hbw := Lib.hid (Hbw.out.trans (hb4.mono Hbw.out.size)); clear hb4
        go_wp2_with fail
        go_ret
        exact ⟨ret_of (congrArg Value.string (by rw [show (⟨#[0]⟩ : ByteArray) = ⟨([0] : List UInt8).toArray⟩ from rfl, ByteArray.mk_append_mk])), Hbw.out⟩
end Go.Proofs.YtpbkmfnfcdhhjaaGreatDoor
