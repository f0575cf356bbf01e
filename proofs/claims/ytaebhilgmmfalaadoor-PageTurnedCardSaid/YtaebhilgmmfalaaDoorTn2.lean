/- The walk of the statement PageTurned. -/
import Derived.Test.YtaebhilgmmfalaaDoorPr4
import Derived.Test.YtaebhilgmmfalaaDoorMPw
import Derived.Test.YtaebhilgmmfalaaDoorTn1
import Derived.Test.YtaebhilgmmfalaaDoorHoldB
import Derived.Test.YtaebhilgmmfalaaDoorMCa
import Derived.Test.YtaebhilgmmfalaaDoorMRw
import Derived.Deep.RegionHeld3
import Derived.Deep.DeepCutAuto
namespace Go.Proofs.YtaebhilgmmfalaaDoor
set_option linter.unusedVariables false
set_option linter.unusedSimpArgs false
open Go Go.RowKit Go.ChangeShapes

theorem col_form {w : World} {u : Value} {c : Col} (h : IsCol w u c) : ∃ (n1 n2 n3 c1 c2 c3 : Nat) (d1 d2 d3 : Option Addr), u = .agg #[.int .i64 c.id, .slice d1 n1 c1, .slice d2 n2 c2, .slice d3 n3 c3] := by
  obtain ⟨p, q, d, rfl, i1, i2, i3⟩ := h
  obtain ⟨x1, y1, rfl⟩ := i1.form; obtain ⟨x2, y2, rfl⟩ := i2.form; obtain ⟨x3, y3, rfl⟩ := i3.form
  exact ⟨_, _, _, _, _, _, _, _, _, rfl⟩
theorem iface_of {w : World} {adr : Nat → Addr} {e : GErr} {u : Value} (h : IsErr w adr e u) (hn : e ≠ .nil) : ∃ T p, u = .iface T p := by
  cases e with
  | nil => exact absurd rfl hn
  | sent k => exact ⟨_, _, h.2.2⟩
  | fault k p => obtain ⟨-, -, b, h, -⟩ := h; exact ⟨_, _, h⟩
/-- Write where no page is -/
theorem write_fail (f : Lf) (c : Col) (vf vc : Value) (w : World) (adr : Nat → Addr) (hE : ErrsAt w adr [3, 4]) (hf : IsLf w vf f) (hc : IsCol w vc c) (fo : f.Ok) (co : c.Ok) (hn : ¬ (colErr f c false = .nil ∧ c.rep ≠ [])) :
    Calls Tryd.prog 8 #[vf, vc] w fun e w' => (∃ T q, e = .returned (.tuple #[.string ⟨#[]⟩, .iface T q])) ∧ Below w.heap.size w w' := by
  by_cases h1 : colErr f c false = .nil
  · have h0 : c.rep = [] := by
      by_cases h : c.rep = []
      · exact h
      · exact absurd ⟨h1, h⟩ hn
    exact (write_none f c vf vc w adr hE hf hc fo co h1 h0).mono fun e w' ⟨a, b⟩ => ⟨⟨_, _, a⟩, b⟩
  · exact (write_bad f c vf vc w adr hE hf hc fo co h1).mono fun e w' ⟨⟨u, a, h⟩, b⟩ => ⟨by obtain ⟨T, q, rfl⟩ := iface_of h h1; exact ⟨T, q, a⟩, b⟩
theorem page_app (f : Lf) (c : Col) (PB s : ByteArray) (h : PB = ⟨(pageB f c).toArray⟩) : (PB ++ s).data.toList = pageB f c ++ s.data.toList ∧ PB.size = (pageB f c).length ∧ (PB ++ s).size = PB.size + s.size := by
  subst h
  refine ⟨by simp, by show (pageB f c).toArray.size = _; simp, by simp⟩
/-- the page's bytes are few -/
theorem page_small {f : Lf} {c : Col} (co : c.Ok) (hr : Right f c) (hl : c.rep.length ≤ 1000) : (pageB f c).length ≤ 190015 := by
  have h1 := (body_len co hr hl).2.2.2.2.1
  have h2 := seven_len (n := (bodyB f c).length) (by omega)
  unfold pageB
  rw [page_len]
  omega
theorem HoldsB.set4 {w : World} {g k : Nat} {l : List UInt8} (h : HoldsB w g l) (hne : g ≠ k) (x0 x1 x2 x3 : Value) : HoldsB ((((w.setCell ⟨k, 0, none⟩ x0).setCell ⟨k, 1, none⟩ x1).setCell ⟨k, 2, none⟩ x2).setCell ⟨k, 3, none⟩ x3) g l := h.keep (set4_other hne x0 x1 x2 x3)
/-- what is read of a turned page: none; or one of another length -/
def TnOut (z : Nat) (n1 k : Nat) (v : Value) : Prop := ((∃ T q, v = .iface T q) ∧ k = 0 ∧ n1 = 0) ∨ (v = .nilIface ∧ k ≠ z)
theorem read_turned (f : Lf) (vf : Value) (T : ByteArray) (z : Nat) (hT : T.size ≤ 1000000) (w : World) (adr : Nat → Addr) (hE : ErrsAt w adr [1, 2, 3, 4, 7]) (hf : IsLf w vf f) (fo : f.Ok) (h : ∀ c u, pageR f T.data.toList = .inr (c, u) → u ≠ z) :
    Calls Tryd.prog 11 #[vf, .string T] w fun e w' => (∃ (i : Int) (n1 n2 n3 c1 c2 c3 : Nat) (d1 d2 d3 : Option Addr) (k : Nat) (v : Value), e = .returned (.tuple #[.agg #[.int .i64 i, .slice d1 n1 c1, .slice d2 n2 c2, .slice d3 n3 c3], .int .i64 (k : Nat), v]) ∧ TnOut z n1 k v) ∧ Below w.heap.size w w' := by
  refine (read_page f vf T hT w adr hE hf fo).mono fun e w' ⟨a, b⟩ => ⟨?_, b⟩
  cases hp : pageR f T.data.toList with
  | inl k =>
    rw [hp] at a
    exact ⟨0, 0, 0, 0, 0, 0, 0, none, none, none, 0, _, a, .inl ⟨⟨_, _, rfl⟩, rfl, rfl⟩⟩
  | inr x =>
    obtain ⟨c, u⟩ := x
    rw [hp] at a
    obtain ⟨y, h1, h2⟩ := a
    obtain ⟨n1, n2, n3, c1, c2, c3, d1, d2, d3, rfl⟩ := col_form h2
    exact ⟨_, n1, n2, n3, c1, c2, c3, d1, d2, d3, u, _, h1, .inr ⟨rfl, h c u hp⟩⟩
theorem xor_u8 (x : UInt8) (k : Nat) (hk : k < 8) : (Value.int .u8 (bits .xor .u8 (x.toNat : Int) (2 ^ k % 256))) = byteV (UInt8.ofNat (x.toNat ^^^ 2 ^ k)) := by
  have hp : (2 : Nat) ^ k < 256 := Nat.pow_lt_pow_right (a := 2) (n := 8) (by decide) hk
  have e2 : ((2 : Int) ^ k % 256) = ((2 ^ k : Nat) : Int) := by
    rw [show ((2 : Int) ^ k) = ((2 ^ k : Nat) : Int) by simp]
    generalize 2 ^ k = pw at *
    omega
  rw [e2, u8_xor_nat _ _ x.toNat_lt hp]
  exact byteV_ofNat rfl (xor_bit_lt x.toNat_lt hk)
set_option maxRecDepth 100000 in
set_option maxHeartbeats 16000000 in
theorem tn_none (f : Lf) (c : Col) (at' : Int) (vf vc : Value) (w : World) (adr : Nat → Addr) (hE : ErrsAt w adr [1, 2, 3, 4, 7]) (hf : IsLf w vf f) (hc : IsCol w vc c) (fo : f.Ok) (co : c.Ok) (cr : c.Reach) (hat : at' < 9223372036854775808) (hn : ¬ (colErr f c false = .nil ∧ c.rep ≠ [])) :
    Calls Tryd.prog 3 #[vf, vc, .int .i64 at'] w fun e w' => e = .returned (.bool true) ∧ Below w.heap.size w w' := by
  have HF := Lib.hid (fun (w1 : World) (h : Below w.heap.size w w1) => hf.below h (Nat.le_refl _))
  have HC := Lib.hid (fun (w1 : World) (h : Below w.heap.size w w1) => hc.below h (Nat.le_refl _))
  have H2 := Lib.hid (fun (w1 : World) (h : Below w.heap.size w w1) => byte80_any w1 adr ((hE.sub (by decide)).below h))
  have HE := Lib.hid hE
  have HSl := Lib.hid (fun (w1 : World) (h : Below w.heap.size w w1) => slim_any f c vf vc w1 (HF.out w1 h) (HC.out w1 h) fo co cr)
  have HRi := Lib.hid (fun (w1 : World) (h : Below w.heap.size w w1) => rightP_any f vf w1 (HF.out w1 h))
  have HOL := Lib.hid (fun (hp : f.path.length ≤ 100) (w1 : World) (h : Below w.heap.size w w1) => ownLeaf_any f vf w1 (HF.out w1 h) hp)
  have HOC := Lib.hid (fun (w1 : World) (h : Below w.heap.size w w1) => ownCol_cap c vc w1 (HC.out w1 h) cr)
  have HOW := Lib.hid (fun (v1 v2 : Value) (w1 : World) (h : Below w.heap.size w w1) (h1 : IsLf w1 v1 f) (h2 : IsCol w1 v2 c) (_ : RoomCol v2) => write_fail f c v1 v2 w1 adr ((hE.sub (by decide)).below h) h1 h2 fo co hn)
  obtain ⟨p, rfl, hp⟩ := hf
  obtain ⟨a, b, d, rfl, ha, hb, hd⟩ := hc
  clear hE hp ha hb hd fo co cr hn
  generalize rightP f = rp at *
  unfold lfA colA at *
  go_enter Tryd.func3, Tryd.ntmps3
  go_wp2_with fail
  refine (H2.out _ (((Below.refl _ _).alloc (Nat.le_refl _) _).alloc (by simp) _)).mono ?_; rintro e w1 ⟨rfl, hb1⟩
  obtain ⟨rA, rB, hbw, hz⟩ := rows2 hb1
  have RA := Lib.hid rA; have RB := Lib.hid rB; have Hbw := Lib.hid hbw
  clear hb1 rA rB hbw hz
  have cA := rowc RA.out; have fA := rowf RA.out; have cB := rowc RB.out; have fB := rowf RB.out
  go_wp2_with fail
  refine (HSl.out _ Hbw.out).mono ?_; rintro e9 w2 ⟨⟨b1, rfl, hsl, hsl2⟩, hb9⟩
  clear cA fA cB fB
  replace RA := Lib.hid (row_keep hb9 RA.out); replace RB := Lib.hid (row_keep hb9 RB.out); replace Hbw := Lib.hid (Hbw.out.trans (hb9.mono Hbw.out.size))
  clear hb9
  have cA := rowc RA.out; have fA := rowf RA.out; have cB := rowc RB.out; have fB := rowf RB.out
  have HS2 := Lib.hid hsl2
  cases b1 with
  | false =>
    go_wp2_with fail
    go_ret
    exact ⟨rfl, Hbw.out⟩
  | true =>
  replace HOL := Lib.hid (HOL.out (hsl rfl))
  clear hsl hsl2
  go_wp2_with fail
  refine (HRi.out _ Hbw.out).mono ?_; rintro e9 w3 ⟨rfl, hb9⟩
  clear cA fA cB fB
  replace RA := Lib.hid (row_keep hb9 RA.out); replace RB := Lib.hid (row_keep hb9 RB.out); replace Hbw := Lib.hid (Hbw.out.trans (hb9.mono Hbw.out.size))
  clear hb9
  have cA := rowc RA.out; have fA := rowf RA.out; have cB := rowc RB.out; have fB := rowf RB.out
  cases rp with
  | false =>
    go_wp2_with fail
    go_ret
    exact ⟨rfl, Hbw.out⟩
  | true =>
  by_cases h0a : at' < 0
  case pos =>
    have h0d : decide (at' < 0) = true := by simpa using h0a
    go_wp2_with fail
    go_ret
    exact ⟨rfl, Hbw.out⟩
  obtain ⟨ap, rfl⟩ := Int.eq_ofNat_of_zero_le (Int.not_lt.1 h0a)
  have h0d : decide (((ap : Nat) : Int) < 0) = false := by simp
  have hat2 : ap < 9223372036854775808 := by omega
  clear h0a hat
  go_upto_region 4 with fail
  clear fA fB
  obtain ⟨wA, hwA⟩ : ∃ x : World, x = w3 := ⟨w3, rfl⟩
  go_cut [8, 9] (fun s7 s8 wx => s7 = .string ⟨#[]⟩ ∧ (∃ T q, s8 = .iface T q) ∧ Below w3.heap.size w3 wx)
  case first =>
    clear hwA
    have HB := Lib.hid (Below.refl w3.heap.size w3)
    go_region_held3 (fun w' => (∀ j, w'.cell? ⟨w.heap.size, j, none⟩ = (#[.int .i64 f.id, .int .i64 f.kind, .int .i64 f.mr, .int .i64 f.md, p] : Array Value)[j]?) ∧ (∀ j, w'.cell? ⟨w.heap.size + 1, j, none⟩ = (#[.int .i64 c.id, a, b, d] : Array Value)[j]?)) (first | (with_reducible exact ⟨rowc RA.out, rowc RB.out⟩) | (with_reducible exact ⟨rowc_drew RA.out, rowc_drew RB.out⟩) | (with_reducible exact ⟨rowc_alloc RA.out _, rowc_alloc RB.out _⟩) | (with_reducible exact ⟨rowc_alloc_drew RA.out _, rowc_alloc_drew RB.out _⟩))
      (first
      | (go_at_call 9; (with_reducible refine (HOL.out _ ?_).mono ?_); (focus (first | (with_reducible exact (Hbw.out.trans (HB.out.mono Hbw.out.size))) | (with_reducible exact (Hbw.out.trans (HB.out.mono Hbw.out.size)).drew) | (with_reducible exact (Hbw.out.trans (HB.out.mono Hbw.out.size)).alloc (Hbw.out.trans (HB.out.mono Hbw.out.size)).size _) | (with_reducible exact ((Hbw.out.trans (HB.out.mono Hbw.out.size)).alloc (Hbw.out.trans (HB.out.mono Hbw.out.size)).size _).drew))); rintro e w9 ⟨⟨u1, rfl, hu1⟩, hb9⟩; (first | (with_reducible have hbs := drew_first hb9) | (have hbs := hb9)); replace RA := Lib.hid (row_keep hbs RA.out); replace RB := Lib.hid (row_keep hbs RB.out); (try (replace HU1 := Lib.hid (HU1.out.below hbs (Nat.le_refl _)))); (try (replace HU2 := Lib.hid (HU2.out.below hbs (Nat.le_refl _)))); replace HB := Lib.hid (HB.out.trans (hbs.mono HB.out.size)); clear hb9 hbs; have HU1 := Lib.hid hu1; clear hu1)
      | (go_at_call 10; (with_reducible refine (HOC.out _ ?_).mono ?_); (focus (first | (with_reducible exact (Hbw.out.trans (HB.out.mono Hbw.out.size))) | (with_reducible exact (Hbw.out.trans (HB.out.mono Hbw.out.size)).drew) | (with_reducible exact (Hbw.out.trans (HB.out.mono Hbw.out.size)).alloc (Hbw.out.trans (HB.out.mono Hbw.out.size)).size _) | (with_reducible exact ((Hbw.out.trans (HB.out.mono Hbw.out.size)).alloc (Hbw.out.trans (HB.out.mono Hbw.out.size)).size _).drew))); rintro e w9 ⟨⟨u2, rfl, hu2, hr2⟩, hb9⟩; (first | (with_reducible have hbs := drew_first hb9) | (have hbs := hb9)); replace RA := Lib.hid (row_keep hbs RA.out); replace RB := Lib.hid (row_keep hbs RB.out); (try (replace HU1 := Lib.hid (HU1.out.below hbs (Nat.le_refl _)))); (try (replace HU2 := Lib.hid (HU2.out.below hbs (Nat.le_refl _)))); replace HB := Lib.hid (HB.out.trans (hbs.mono HB.out.size)); clear hb9 hbs; have HU2 := Lib.hid hu2; have HRm := Lib.hid hr2; clear hu2 hr2)
      | (go_at_call 8; (with_reducible refine (HOW.out _ _ _ ?_ ?_ ?_ HRm.out).mono ?_); (focus (first | (with_reducible exact (Hbw.out.trans (HB.out.mono Hbw.out.size))) | (with_reducible exact (Hbw.out.trans (HB.out.mono Hbw.out.size)).drew) | (with_reducible exact (Hbw.out.trans (HB.out.mono Hbw.out.size)).alloc (Hbw.out.trans (HB.out.mono Hbw.out.size)).size _) | (with_reducible exact ((Hbw.out.trans (HB.out.mono Hbw.out.size)).alloc (Hbw.out.trans (HB.out.mono Hbw.out.size)).size _).drew))); (focus (first | exact HU1.out | exact HU1.out.below (Below.refl _ _).drew (Nat.le_refl _))); (focus (first | exact HU2.out | exact HU2.out.below (Below.refl _ _).drew (Nat.le_refl _))); rintro e w9 ⟨⟨T9, q9, rfl⟩, hb9⟩; (first | (with_reducible have hbs := drew_first hb9) | (have hbs := hb9)); replace RA := Lib.hid (row_keep hbs RA.out); replace RB := Lib.hid (row_keep hbs RB.out); (try (replace HU1 := Lib.hid (HU1.out.below hbs (Nat.le_refl _)))); (try (replace HU2 := Lib.hid (HU2.out.below hbs (Nat.le_refl _)))); replace HB := Lib.hid (HB.out.trans (hbs.mono HB.out.size)); clear hb9 hbs))
    all_goals (go_wp2_with fail; go_meet)
    all_goals (exact ⟨rfl, ⟨_, _, rfl⟩, HB.out⟩)
  case rest =>
  obtain ⟨rfl, ⟨T9, q9, rfl⟩, hbx⟩ := hcut
  replace Hbw := Lib.hid (Hbw.out.trans (hbx.mono Hbw.out.size))
  clear cA cB hbx hwA
  go_wp2_with fail
  go_ret
  exact ⟨rfl, Hbw.out⟩
set_option maxRecDepth 100000 in
set_option maxHeartbeats 16000000 in
theorem tn_ok (f : Lf) (c : Col) (at' : Int) (vf vc : Value) (w : World) (adr : Nat → Addr) (hE : ErrsAt w adr [1, 2, 3, 4, 7]) (hf : IsLf w vf f) (hc : IsCol w vc c) (fo : f.Ok) (co : c.Ok) (cr : c.Reach) (hat : at' < 9223372036854775808) (hn : colErr f c false = .nil) (h0 : c.rep ≠ []) :
    Calls Tryd.prog 3 #[vf, vc, .int .i64 at'] w fun e w' => e = .returned (.bool true) ∧ Below w.heap.size w w' := by
  have HF := Lib.hid (fun (w1 : World) (h : Below w.heap.size w w1) => hf.below h (Nat.le_refl _))
  have HC := Lib.hid (fun (w1 : World) (h : Below w.heap.size w w1) => hc.below h (Nat.le_refl _))
  have H2 := Lib.hid (fun (w1 : World) (h : Below w.heap.size w w1) => byte80_any w1 adr ((hE.sub (by decide)).below h))
  have HE := Lib.hid hE
  have HSl := Lib.hid (fun (w1 : World) (h : Below w.heap.size w w1) => slim_any f c vf vc w1 (HF.out w1 h) (HC.out w1 h) fo co cr)
  have HRi := Lib.hid (fun (w1 : World) (h : Below w.heap.size w w1) => rightP_any f vf w1 (HF.out w1 h))
  have HOL := Lib.hid (fun (hp : f.path.length ≤ 100) (w1 : World) (h : Below w.heap.size w w1) => ownLeaf_any f vf w1 (HF.out w1 h) hp)
  have HOC := Lib.hid (fun (w1 : World) (h : Below w.heap.size w w1) => ownCol_cap c vc w1 (HC.out w1 h) cr)
  have HOW0 := Lib.hid (fun (hl : c.rep.length ≤ 1000) (v1 v2 : Value) (w1 : World) (h : Below w.heap.size w w1) (h1 : IsLf w1 v1 f) (h2 : IsCol w1 v2 c) (hr : RoomCol v2) => write_ok f c v1 v2 w1 adr ((hE.sub (by decide)).below h) h1 h2 hr fo co hn h0 hl)
  have HLn := Lib.hid (show slimN c ≤ 2000 → c.rep.length ≤ 1000 from fun h => by have := (right_of hn).1.len; unfold slimN at h; omega)
  have HVs := Lib.hid (show ∀ x ∈ c.vals, x.s.size ≤ 100000 from fun x hx => by have := okP_size ((right_of hn).1.vals x hx); omega)
  have Hn := Lib.hid hn; have Fo := Lib.hid fo; have Co := Lib.hid co
  obtain ⟨p, rfl, hp⟩ := hf
  obtain ⟨a, b, d, rfl, ha, hb, hd⟩ := hc
  clear hE hp ha hb hd fo co cr hn h0
  generalize rightP f = rp at *
  unfold lfA colA at *
  go_enter Tryd.func3, Tryd.ntmps3
  go_wp2_with fail
  refine (H2.out _ (((Below.refl _ _).alloc (Nat.le_refl _) _).alloc (by simp) _)).mono ?_; rintro e w1 ⟨rfl, hb1⟩
  obtain ⟨rA, rB, hbw, hz⟩ := rows2 hb1
  have RA := Lib.hid rA; have RB := Lib.hid rB; have Hbw := Lib.hid hbw
  clear hb1 rA rB hbw hz
  have cA := rowc RA.out; have fA := rowf RA.out; have cB := rowc RB.out; have fB := rowf RB.out
  go_wp2_with fail
  refine (HSl.out _ Hbw.out).mono ?_; rintro e9 w2 ⟨⟨b1, rfl, hsl, hsl2⟩, hb9⟩
  clear cA fA cB fB
  replace RA := Lib.hid (row_keep hb9 RA.out); replace RB := Lib.hid (row_keep hb9 RB.out); replace Hbw := Lib.hid (Hbw.out.trans (hb9.mono Hbw.out.size))
  clear hb9
  have cA := rowc RA.out; have fA := rowf RA.out; have cB := rowc RB.out; have fB := rowf RB.out
  have HS2 := Lib.hid hsl2
  cases b1 with
  | false =>
    go_wp2_with fail
    go_ret
    exact ⟨rfl, Hbw.out⟩
  | true =>
  replace HOL := Lib.hid (HOL.out (hsl rfl))
  clear hsl hsl2
  go_wp2_with fail
  refine (HRi.out _ Hbw.out).mono ?_; rintro e9 w3 ⟨rfl, hb9⟩
  clear cA fA cB fB
  replace RA := Lib.hid (row_keep hb9 RA.out); replace RB := Lib.hid (row_keep hb9 RB.out); replace Hbw := Lib.hid (Hbw.out.trans (hb9.mono Hbw.out.size))
  clear hb9
  have cA := rowc RA.out; have fA := rowf RA.out; have cB := rowc RB.out; have fB := rowf RB.out
  cases rp with
  | false =>
    go_wp2_with fail
    go_ret
    exact ⟨rfl, Hbw.out⟩
  | true =>
  by_cases h0a : at' < 0
  case pos =>
    have h0d : decide (at' < 0) = true := by simpa using h0a
    go_wp2_with fail
    go_ret
    exact ⟨rfl, Hbw.out⟩
  obtain ⟨ap, rfl⟩ := Int.eq_ofNat_of_zero_le (Int.not_lt.1 h0a)
  have h0d : decide (((ap : Nat) : Int) < 0) = false := by simp
  have hat2 : ap < 9223372036854775808 := by omega
  clear h0a hat
  obtain ⟨PB, hPB⟩ : ∃ PB : ByteArray, PB = ⟨(pageB f c).toArray⟩ := ⟨_, rfl⟩
  have hl := HLn.out (HS2.out HVs.out (by first | rfl | trivial))
  have hrg := (right_of Hn.out).1
  have HOW1 := HOW0.out hl
  have hp2 : PB.data.toList = pageB f c := by rw [hPB]
  have hp4 := page_small Co.out hrg hl
  rw [← hPB] at HOW1
  have HOW := Lib.hid HOW1
  have Hp2 := Lib.hid hp2
  have hpz : PB.size ≤ 190015 := by rw [← ba_len, hp2]; exact hp4
  clear hp2 hp4 hPB HOW0 HOW1 HLn HVs hl HS2 hrg
  go_upto_region 4 with fail
  clear fA fB
  obtain ⟨wA, hwA⟩ : ∃ x : World, x = w3 := ⟨w3, rfl⟩
  go_cut [8, 9] (fun s7 s8 wx => s7 = .string PB ∧ s8 = .nilIface ∧ Below w3.heap.size w3 wx)
  case first =>
    clear hwA
    have HB := Lib.hid (Below.refl w3.heap.size w3)
    go_region_held3 (fun w' => (∀ j, w'.cell? ⟨w.heap.size, j, none⟩ = (#[.int .i64 f.id, .int .i64 f.kind, .int .i64 f.mr, .int .i64 f.md, p] : Array Value)[j]?) ∧ (∀ j, w'.cell? ⟨w.heap.size + 1, j, none⟩ = (#[.int .i64 c.id, a, b, d] : Array Value)[j]?)) (first | (with_reducible exact ⟨rowc RA.out, rowc RB.out⟩) | (with_reducible exact ⟨rowc_drew RA.out, rowc_drew RB.out⟩) | (with_reducible exact ⟨rowc_alloc RA.out _, rowc_alloc RB.out _⟩) | (with_reducible exact ⟨rowc_alloc_drew RA.out _, rowc_alloc_drew RB.out _⟩))
      (first
      | (go_at_call 9; (with_reducible refine (HOL.out _ ?_).mono ?_); (focus (first | (with_reducible exact (Hbw.out.trans (HB.out.mono Hbw.out.size))) | (with_reducible exact (Hbw.out.trans (HB.out.mono Hbw.out.size)).drew) | (with_reducible exact (Hbw.out.trans (HB.out.mono Hbw.out.size)).alloc (Hbw.out.trans (HB.out.mono Hbw.out.size)).size _) | (with_reducible exact ((Hbw.out.trans (HB.out.mono Hbw.out.size)).alloc (Hbw.out.trans (HB.out.mono Hbw.out.size)).size _).drew))); rintro e w9 ⟨⟨u1, rfl, hu1⟩, hb9⟩; (first | (with_reducible have hbs := drew_first hb9) | (have hbs := hb9)); replace RA := Lib.hid (row_keep hbs RA.out); replace RB := Lib.hid (row_keep hbs RB.out); (try (replace HU1 := Lib.hid (HU1.out.below hbs (Nat.le_refl _)))); (try (replace HU2 := Lib.hid (HU2.out.below hbs (Nat.le_refl _)))); replace HB := Lib.hid (HB.out.trans (hbs.mono HB.out.size)); clear hb9 hbs; have HU1 := Lib.hid hu1; clear hu1)
      | (go_at_call 10; (with_reducible refine (HOC.out _ ?_).mono ?_); (focus (first | (with_reducible exact (Hbw.out.trans (HB.out.mono Hbw.out.size))) | (with_reducible exact (Hbw.out.trans (HB.out.mono Hbw.out.size)).drew) | (with_reducible exact (Hbw.out.trans (HB.out.mono Hbw.out.size)).alloc (Hbw.out.trans (HB.out.mono Hbw.out.size)).size _) | (with_reducible exact ((Hbw.out.trans (HB.out.mono Hbw.out.size)).alloc (Hbw.out.trans (HB.out.mono Hbw.out.size)).size _).drew))); rintro e w9 ⟨⟨u2, rfl, hu2, hr2⟩, hb9⟩; (first | (with_reducible have hbs := drew_first hb9) | (have hbs := hb9)); replace RA := Lib.hid (row_keep hbs RA.out); replace RB := Lib.hid (row_keep hbs RB.out); (try (replace HU1 := Lib.hid (HU1.out.below hbs (Nat.le_refl _)))); (try (replace HU2 := Lib.hid (HU2.out.below hbs (Nat.le_refl _)))); replace HB := Lib.hid (HB.out.trans (hbs.mono HB.out.size)); clear hb9 hbs; have HU2 := Lib.hid hu2; have HRm := Lib.hid hr2; clear hu2 hr2)
      | (go_at_call 8; (with_reducible refine (HOW.out _ _ _ ?_ ?_ ?_ HRm.out).mono ?_); (focus (first | (with_reducible exact (Hbw.out.trans (HB.out.mono Hbw.out.size))) | (with_reducible exact (Hbw.out.trans (HB.out.mono Hbw.out.size)).drew) | (with_reducible exact (Hbw.out.trans (HB.out.mono Hbw.out.size)).alloc (Hbw.out.trans (HB.out.mono Hbw.out.size)).size _) | (with_reducible exact ((Hbw.out.trans (HB.out.mono Hbw.out.size)).alloc (Hbw.out.trans (HB.out.mono Hbw.out.size)).size _).drew))); (focus (first | exact HU1.out | exact HU1.out.below (Below.refl _ _).drew (Nat.le_refl _))); (focus (first | exact HU2.out | exact HU2.out.below (Below.refl _ _).drew (Nat.le_refl _))); rintro e w9 ⟨rfl, hb9⟩; (first | (with_reducible have hbs := drew_first hb9) | (have hbs := hb9)); replace RA := Lib.hid (row_keep hbs RA.out); replace RB := Lib.hid (row_keep hbs RB.out); (try (replace HU1 := Lib.hid (HU1.out.below hbs (Nat.le_refl _)))); (try (replace HU2 := Lib.hid (HU2.out.below hbs (Nat.le_refl _)))); replace HB := Lib.hid (HB.out.trans (hbs.mono HB.out.size)); clear hb9 hbs))
    all_goals (go_wp2_with fail; go_meet)
    all_goals (exact ⟨rfl, rfl, HB.out⟩)
  case rest =>
  obtain ⟨rfl, rfl, hbx⟩ := hcut
  clear cA cB hwA
  replace RA := Lib.hid (row_keep hbx RA.out); replace RB := Lib.hid (row_keep hbx RB.out); replace Hbw := Lib.hid (Hbw.out.trans (hbx.mono Hbw.out.size))
  clear hbx
  have cA := rowc RA.out; have fA := rowf RA.out; have cB := rowc RB.out; have fB := rowf RB.out
  by_cases hin : ap / 8 < PB.size
  case neg =>
    have hin' : decide ((PB.size : Int) ≤ (ap : Int) / 8) = true := decide_eq_true (by omega)
    clear hin
    go_wp2_with fail
    go_ret
    exact ⟨rfl, Hbw.out⟩
  have hin' : ¬ (PB.size : Int) ≤ (ap : Int) / 8 := by omega
  obtain ⟨wb, rfl⟩ : ∃ x : World, x = wc := ⟨_, rfl⟩
  have hcv := run_bytes_of_string (P := Tryd.prog) wb 9 38 5 PB Tryd.underlying9 Tryd.underlying38 Tryd.underlying5
  go_upto_region 8 with fail
  have hh := HoldsB.of_string wb PB (grownCap wb PB.size 0 5) 5
  have hb9 : Below wb.heap.size wb (wb.alloc (.cells (bytesRow PB (grownCap wb PB.size 0 5)) 5 ((bytesRow PB (grownCap wb PB.size 0 5)).size, (bytesRow PB (grownCap wb PB.size 0 5)).size + 1))).drew := ((Below.refl wb.heap.size wb).alloc (Nat.le_refl _) _).drew
  have hgA : w.heap.size < wb.heap.size := row_lt RA.out
  clear cA fA cB fB
  replace RA := Lib.hid (row_keep hb9 RA.out); replace Hbw := Lib.hid (Hbw.out.trans (hb9.mono Hbw.out.size))
  clear hb9
  rw [World.alloc_drew] at hh
  clear hcv RB
  generalize (wb.alloc (.cells (bytesRow PB (grownCap wb PB.size 0 5)) 5 ((bytesRow PB (grownCap wb PB.size 0 5)).size, (bytesRow PB (grownCap wb PB.size 0 5)).size + 1))).drew = we at *
  generalize grownCap wb PB.size 0 5 = cap at *
  generalize wb.heap.size = g at *
  have hlen : PB.data.toList.length = PB.size := ba_len PB
  have HH := Lib.hid hh; have Hlen := Lib.hid hlen
  clear hh hlen
  have hcl := HH.out.cell (ap / 8) (by rw [Hlen.out]; exact hin)
  have hfz := HH.out.frozen (ap / 8) (by rw [Hlen.out]; exact hin)
  have cA := rowc RA.out; have fA := rowf RA.out
  go_cut [10] (fun s10 wx => s10 = .slice (some ⟨g, 0, none⟩) PB.size cap ∧ HoldsB wx g (PB.data.toList.set (ap / 8) (UInt8.ofNat ((PB.data.toList[ap / 8]'(by rw [Hlen.out]; exact hin)).toNat ^^^ 2 ^ (ap % 8)))) ∧ wx.heap[w.heap.size]? = some (.cells #[.int .i64 f.id, .int .i64 f.kind, .int .i64 f.mr, .int .i64 f.md, p] 24 (0, 0)) ∧ Below w.heap.size w wx)
  case first =>
    go_region
    go_wp2_with fail
    go_meet
    rw [xor_u8 _ _ (Nat.mod_lt _ (by decide))]
    refine ⟨rfl, ?_, ?_, ?_⟩
    focus (exact (HH.out.set (ap / 8) (by rw [Hlen.out]; exact hin) _).drw)
    focus (exact (heap_setCell_other _ _ _ _ (show w.heap.size ≠ g by omega)).trans RA.out)
    focus (exact (Hbw.out.setCell (by show w.heap.size ≤ g; omega) _).drew)
  case rest =>
  obtain ⟨rfl, hh, rA, hbw⟩ := hcut
  clear cA fA hcl hfz HH RA Hbw
  obtain ⟨L, hL⟩ : ∃ L, L = PB.data.toList.set (ap / 8) (UInt8.ofNat ((PB.data.toList[ap / 8]'(by rw [Hlen.out]; exact hin)).toNat ^^^ 2 ^ (ap % 8))) := ⟨_, rfl⟩
  rw [← hL] at hh
  have hLl : L.length = PB.size := by rw [hL, List.length_set]; exact Hlen.out
  obtain ⟨TB, hTB⟩ : ∃ TB : ByteArray, TB = ⟨L.toArray⟩ := ⟨_, rfl⟩
  have hcv := fun (wx : World) (h : HoldsB wx g L) => HoldsB.conv (cap := cap) h hLl hTB
  have hTs : TB.size = PB.size := by rw [hTB]; exact hLl
  have hTn : ∀ c' u, pageR f TB.data.toList = .inr (c', u) → u ≠ PB.size := by
    intro c' u h
    have e1 : TB.data.toList = L := by rw [hTB]
    rw [e1, hL] at h
    rw [← Hlen.out]
    simp only [Hp2.out] at h ⊢
    exact pageR_turn f (bodyB f c) (ap / 8) (ap % 8) (Nat.mod_lt _ (by decide)) (by have := Hlen.out; rw [Hp2.out] at this; show _ < (pageB f c).length; omega) c' u h
  have HRd := Lib.hid (fun (v1 : Value) (w1 : World) (h : Below w.heap.size w w1) (h1 : IsLf w1 v1 f) => read_turned f v1 TB PB.size (by omega) w1 adr (HE.out.below h) h1 Fo.out hTn)
  have HH := Lib.hid hh; have RA := Lib.hid rA; have Hbw := Lib.hid hbw
  have cA := rowc RA.out
  obtain ⟨wf, rfl⟩ : ∃ x : World, x = wc := ⟨_, rfl⟩
  have hgA2 : w.heap.size < wf.heap.size := row_lt RA.out
  have hgg : g < wf.heap.size := HH.out.lt
  clear hh rA hbw hL hTB hTn hLl
  go_upto_region 9 with fail
  go_cut [9, 11, 12] (fun s9 s11 s12 wx => ∃ (gX : Nat) (i : Int) (n1 n2 n3 c1 c2 c3 : Nat) (d1 d2 d3 : Option Addr) (k : Nat), s11 = .pointer (some ⟨gX, 0, none⟩) ∧ s12 = .int .i64 (k : Nat) ∧ wx.heap[gX]? = some (.cells #[.int .i64 i, .slice d1 n1 c1, .slice d2 n2 c2, .slice d3 n3 c3] 27 (0, 0)) ∧ TnOut PB.size n1 k s9 ∧ Below wf.heap.size wf wx)
  case first =>
    have HB := Lib.hid (Below.refl wf.heap.size wf)
    go_region_held3 (fun w' => (∀ j, w'.cell? ⟨w.heap.size, j, none⟩ = (#[.int .i64 f.id, .int .i64 f.kind, .int .i64 f.mr, .int .i64 f.md, p] : Array Value)[j]?) ∧ HoldsB w' g L) (first | (with_reducible exact ⟨rowc RA.out, HH.out⟩) | (with_reducible exact ⟨rowc_drew RA.out, HH.out.drw⟩) | (with_reducible exact ⟨rowc_alloc RA.out _, HH.out.allc _⟩) | (with_reducible exact ⟨rowc_alloc_drew RA.out _, HH.out.allcd _⟩) | ((with_reducible refine ⟨rowc_set4 RA.out ?_ _ _ _ _, HH.out.set4 ?_ _ _ _ _⟩) <;> omega))
      (first
      | (go_at_call 9; (with_reducible refine (HOL.out _ ?_).mono ?_); (focus (first | (with_reducible exact (Hbw.out.trans (HB.out.mono Hbw.out.size))) | (with_reducible exact (Hbw.out.trans (HB.out.mono Hbw.out.size)).drew) | (with_reducible exact (Hbw.out.trans (HB.out.mono Hbw.out.size)).alloc (Hbw.out.trans (HB.out.mono Hbw.out.size)).size _) | (with_reducible exact ((Hbw.out.trans (HB.out.mono Hbw.out.size)).alloc (Hbw.out.trans (HB.out.mono Hbw.out.size)).size _).drew))); rintro e w9 ⟨⟨u1, rfl, hu1⟩, hb9⟩; (first | ((with_reducible have hq := rows1 hb9); obtain ⟨rG, hbs, hl⟩ := hq; have cG := rowc rG; have fG := rowf rG; have RG := Lib.hid rG; have hgz := HB.out.size; clear rG hl) | ((with_reducible have hq := rows1d hb9); obtain ⟨rG, hbs, hl⟩ := hq; have cG := rowc rG; have fG := rowf rG; have RG := Lib.hid rG; have hgz := HB.out.size; clear rG hl) | ((with_reducible have hbs := drew_first hb9); try (replace RG := Lib.hid (row_keep hbs RG.out); replace cG := rowc RG.out; replace fG := rowf RG.out)) | (have hbs := hb9; try (replace RG := Lib.hid (row_keep hbs RG.out); replace cG := rowc RG.out; replace fG := rowf RG.out))); have hU1 := hu1; replace RA := Lib.hid (row_keep hbs RA.out); replace HH := Lib.hid (HH.out.below hbs); (try (replace HU1 := Lib.hid (HU1.out.below hbs (Nat.le_refl _)))); replace HB := Lib.hid (HB.out.trans (hbs.mono HB.out.size)); clear hb9 hbs; have HU1 := Lib.hid hU1; clear hu1 hU1)
      | (go_at_call 11; (with_reducible refine (HRd.out _ _ ?_ ?_).mono ?_); (focus (first | (with_reducible exact (Hbw.out.trans (HB.out.mono Hbw.out.size))) | (with_reducible exact (Hbw.out.trans (HB.out.mono Hbw.out.size)).drew) | (with_reducible exact (Hbw.out.trans (HB.out.mono Hbw.out.size)).alloc (Hbw.out.trans (HB.out.mono Hbw.out.size)).size _) | (with_reducible exact ((Hbw.out.trans (HB.out.mono Hbw.out.size)).alloc (Hbw.out.trans (HB.out.mono Hbw.out.size)).size _).drew))); (focus (first | exact HU1.out | exact HU1.out.below (Below.refl _ _).drew (Nat.le_refl _) | exact HU1.out.below ((Below.refl _ _).alloc (Nat.le_refl _) _) (Nat.le_refl _) | exact HU1.out.below ((Below.refl _ _).alloc (Nat.le_refl _) _).drew (Nat.le_refl _))); rintro e w9 ⟨⟨i, n1, n2, n3, c1, c2, c3, d1, d2, d3, k, v9, rfl, ht⟩, hb9⟩; (first | ((with_reducible have hq := rows1 hb9); obtain ⟨rG, hbs, hl⟩ := hq; have cG := rowc rG; have fG := rowf rG; have RG := Lib.hid rG; have hgz := HB.out.size; clear rG hl) | ((with_reducible have hq := rows1d hb9); obtain ⟨rG, hbs, hl⟩ := hq; have cG := rowc rG; have fG := rowf rG; have RG := Lib.hid rG; have hgz := HB.out.size; clear rG hl) | ((with_reducible have hbs := drew_first hb9); try (replace RG := Lib.hid (row_keep hbs RG.out); replace cG := rowc RG.out; replace fG := rowf RG.out)) | (have hbs := hb9; try (replace RG := Lib.hid (row_keep hbs RG.out); replace cG := rowc RG.out; replace fG := rowf RG.out))); replace RA := Lib.hid (row_keep hbs RA.out); replace HH := Lib.hid (HH.out.below hbs); (try (replace HU1 := Lib.hid (HU1.out.below hbs (Nat.le_refl _)))); replace HB := Lib.hid (HB.out.trans (hbs.mono HB.out.size)); clear hb9 hbs; have HT9 := Lib.hid ht; clear ht))
    all_goals (go_wp2_with fail; go_meet)
    all_goals first
      | (refine ⟨_, i, n1, n2, n3, c1, c2, c3, d1, d2, d3, k, rfl, rfl, ?_, HT9.out, ?_⟩; (focus (with_reducible exact heap_alloc_new _ _)); (focus (with_reducible exact HB.out.alloc HB.out.size _)))
      | (refine ⟨_, i, n1, n2, n3, c1, c2, c3, d1, d2, d3, k, rfl, rfl, ?_, HT9.out, ?_⟩; (focus (with_reducible exact row_set4 RG.out rfl _ _ _ _)); (focus (with_reducible exact below_set4 HB.out _ hgz _ _ _ _)))
  case rest =>
  obtain ⟨gX, i, n1, n2, n3, c1, c2, c3, d1, d2, d3, k, rfl, rfl, rX, ht, hbx⟩ := hcut
  replace Hbw := Lib.hid (Hbw.out.trans (hbx.mono Hbw.out.size))
  have cX := rowc rX; have fX := rowf rX
  clear cA hbx hcv
  rcases ht with ⟨⟨T9, q9, rfl⟩, rfl, rfl⟩ | ⟨rfl, hk⟩
  · go_wp2_with fail
    go_ret
    exact ⟨rfl, Hbw.out⟩
  · have hk' : (((k : Nat) : Int) != (PB.size : Int)) = true := by rw [bne_iff_ne]; omega
    clear hk
    go_wp2_with fail
    go_ret
    exact ⟨rfl, Hbw.out⟩
theorem pageTurned_law {w : World} (vf : Value) (f : Lf) (hf : IsLf w vf f) (fo : f.Ok) (vc : Value) (c : Col) (hc : IsCol w vc c) (co : c.Ok) (cr : c.Reach) (n : Int) (h0 : -9223372036854775808 ≤ n) (h1 : n < 9223372036854775808) (hL : laidMetH Tryd.prog Rows.pageTurnedRow.laid w) :
    Calls Tryd.prog 3 #[vf, vc, .int .i64 n] w fun e w' => e = .returned (.bool true) ∧ Below w.heap.size w w' := by
  obtain ⟨adr, hE⟩ := errsAt_of_laid2 [1, 2, 3, 4, 7] rfl (by intro k hk; simp only [List.mem_cons, List.not_mem_nil, or_false] at hk; rcases hk with rfl | rfl | rfl | rfl | rfl <;> exact ⟨by kernel_rfl, by kernel_rfl⟩) hL
  by_cases hn : colErr f c false = .nil ∧ c.rep ≠ []
  · exact tn_ok f c n vf vc w adr hE hf hc fo co cr h1 hn.1 hn.2
  · exact tn_none f c n vf vc w adr hE hf hc fo co cr h1 hn
end Go.Proofs.YtaebhilgmmfalaaDoor
