/- The walk of the statement StatsMay. -/
import Derived.Test.YthilhooomlhfpaaDoorMMay
import Derived.Test.YthilhooomlhfpaaDoorMKnown
import Derived.Test.YthilhooomlhfpaaDoorMRow
import Derived.Deep.RegionHeld3
namespace Go.Proofs.YthilhooomlhfpaaDoor
set_option linter.unusedVariables false
open Go Go.RowKit Go.ChangeShapes

theorem standsO_isSome (s : ByteArray) (a b c d : Bool) : (standsO s a b).isSome = (standsO s c d).isSome := by
  unfold standsO
  by_cases h0 : s = ⟨#[60]⟩
  · rw [if_pos h0, if_pos h0]; rfl
  rw [if_neg h0, if_neg h0]
  by_cases h1 : s = ⟨#[60, 61]⟩
  · rw [if_pos h1, if_pos h1]; rfl
  rw [if_neg h1, if_neg h1]
  by_cases h2 : s = ⟨#[61]⟩
  · rw [if_pos h2, if_pos h2]; rfl
  rw [if_neg h2, if_neg h2]
  by_cases h3 : s = ⟨#[33, 61]⟩
  · rw [if_pos h3, if_pos h3]; rfl
  rw [if_neg h3, if_neg h3]
  by_cases h4 : s = ⟨#[62]⟩
  · rw [if_pos h4, if_pos h4]; rfl
  rw [if_neg h4, if_neg h4]
  by_cases h5 : s = ⟨#[62, 61]⟩
  · rw [if_pos h5, if_pos h5]; rfl
  rw [if_neg h5, if_neg h5]
theorem isV_iff (k : Int) (x : Val) : isV k x = true ↔ OkP k x ∧ 1 ≤ k ∧ k ≤ 5 := by
  unfold isV
  rw [Bool.and_eq_true, decide_eq_true_iff, okB_iff]
  exact ⟨fun ⟨a, b⟩ => ⟨b, a.1, a.2⟩, fun ⟨a, b, c⟩ => ⟨⟨b, c⟩, a⟩⟩
theorem valsErr_right1 {kind : Int} {l : List Val} (h1 : 1 ≤ kind) (h5 : kind ≤ 5) (hl : l.length ≤ 20000) (hP : ∀ x ∈ l, OkP kind x) : valsErr kind l = .nil := by
  unfold valsErr
  rw [if_neg (by omega), if_neg (by omega), (badAt_none kind l 0).2 hP]
theorem valsErr_one (v : Val) : isV v.k v = true ↔ valsErr v.k [v] = .nil := by
  rw [isV_iff]
  constructor
  · rintro ⟨h, h1, h5⟩
    exact valsErr_right1 h1 h5 (by simp) (by intro x hx; simp at hx; subst hx; exact h)
  · intro h
    obtain ⟨h1, h5, _, h4⟩ := valsErr_nil h
    exact ⟨h4 v (by simp), h1, h5⟩
/-- both answers are the same where the least is no more than the greatest -/
theorem may_same (a : St) (ha : a.Ok) (s : ByteArray) (v : Val) (hv : v.Ok) (iv : isV v.k v = true) (h : a.has = false ∨ isV v.k a.lo = true ∧ isV v.k a.hi = true ∧ a.hi.less a.lo = false) : mayP a s v = mayB a s v := by
  unfold mayP mayB
  rcases h with h | ⟨h1, h2, h3⟩
  · rw [h]; rfl
  congr 1
  by_cases hs : s = ⟨#[61]⟩
  · rw [if_pos hs, if_pos hs]
    obtain ⟨pv, k1, k5⟩ := (isV_iff _ _).1 iv
    have jv := pv.is k1 k5
    have jl := ((isV_iff _ _).1 h1).1.is k1 k5
    have jh := ((isV_iff _ _).1 h2).1.is k1 k5
    have e : standsO s (a.hi.less v) (v.less a.hi) = some (!(a.hi.less v) && !(v.less a.hi)) := by
      subst hs
      rfl
    rw [e]
    cases h4 : v.less a.lo <;> cases h5 : a.hi.less v <;> cases h6 : v.less a.hi <;> simp
    -- v below the least, the greatest no less than v: the same
    have e1 := Val.less_total ha.hi hv jh jv h5 h6
    rw [e1] at h3
    rw [h3] at h4
    cases h4
  · rw [if_neg hs, if_neg hs]

set_option maxRecDepth 100000 in
set_option maxHeartbeats 4000000 in
theorem smay_early (a : St) (s : ByteArray) (hs : 100 < s.size) (hs2 : s.size ≤ maxLen) (v : Val) (w : World) (adr : Nat → Addr) (hE : ErrEnv w adr) :
    Calls Tryd.prog 5 #[.agg (stA a), .string s, .agg (valA v)] w fun e w' => e = .returned (.bool true) ∧ Below w.heap.size w w' := by
  have H2 := Lib.hid (fun (w1 : World) (h : Below w.heap.size w w1) => two_any w1 adr (hE.errs.sub (by decide) |>.below h))
  have hs3 : ¬ (s.size : Int) ≤ 100 := by omega
  clear hE
  unfold maxLen at hs2
  obtain ⟨ae, an, ah, al, aH⟩ := a
  simp only [stA, valA]
  go_enter Tryd.func5, Tryd.ntmps5
  go_wp2_with fail
  refine (H2.out _ (((Below.refl _ _).alloc (Nat.le_refl _) _).alloc (by simp) _)).mono ?_; rintro e w1 ⟨rfl, hb1⟩
  obtain ⟨rA, rV, hbw, hz⟩ := rows2 hb1
  have cA := rowc rA; have cV := rowc rV
  clear hb1 rA rV
  go_wp2_with fail
  go_ret
  exact ⟨rfl, hbw⟩

set_option maxRecDepth 100000 in
set_option maxHeartbeats 8000000 in
theorem smay_err1 (a : St) (s : ByteArray) (hs : s.size ≤ 100) (v : Val) (x i : Bool) (w : World) (adr : Nat → Addr) (hE : ErrEnv w adr)
    (hS : ∀ w1, Calls Tryd.prog 23 #[.agg (valA v), .string s, .agg (valA v)] w1 fun e w' => e = .returned (.tuple #[.bool x, .bool false]) ∧ Below w1.heap.size w1 w')
    (hI : ∀ w1, Calls Tryd.prog 24 #[.int .i64 v.k, .agg (valA v)] w1 fun e w' => e = .returned (.bool i) ∧ Below w1.heap.size w1 w')
    (hM : ∀ w1, Below w.heap.size w w1 → Calls Tryd.prog 25 #[.agg (stA a), .string s, .agg (valA v)] w1 fun e w' => e = .returned (.tuple #[.bool false, .iface 232 (.pointer (some (adr 1)))]) ∧ Below w1.heap.size w1 w') :
    Calls Tryd.prog 5 #[.agg (stA a), .string s, .agg (valA v)] w fun e w' => e = .returned (.bool true) ∧ Below w.heap.size w w' := by
  have HCd := Lib.hid (fun (w1 : World) (h : ErrEnv w1 adr) => show Calls Tryd.prog 22 #[.iface 232 (.pointer (some (adr 1))), .int .i64 1] w1 fun r w' => r = .returned (.bool true) ∧ Below w1.heap.size w1 w' from
        (coded_any (w := w1) (adr := adr) (e := .sent 1) (v := .iface 232 (.pointer (some (adr 1)))) 1 h ⟨by decide, by decide, rfl⟩).mono fun r w' ⟨h1, h2⟩ => ⟨h1.trans (ret_of (by simp [GErr.code, GErr.at'])), h2⟩)
  have hs3 : (s.size : Int) ≤ 100 := by omega
  clear hs
  have H2 := Lib.hid (fun (w1 : World) (h : Below w.heap.size w w1) => two_any w1 adr (hE.errs.sub (by decide) |>.below h))
  have HE := Lib.hid hE
  obtain ⟨ae, an, ah, al, aH⟩ := a
  have hSA := fun w1 => statsOf_any ⟨ae, an, ah, al, aH⟩ w1
  simp only [stA, valA] at hSA hS hI hM
  have HSA := Lib.hid hSA; have HS := Lib.hid hS; have HI := Lib.hid hI; have HM := Lib.hid hM
  clear hE hS hI hM hSA
  simp only [stA, valA]
  go_enter Tryd.func5, Tryd.ntmps5
  go_wp2_with fail
  refine (H2.out _ (((Below.refl _ _).alloc (Nat.le_refl _) _).alloc (by simp) _)).mono ?_; rintro e w1 ⟨rfl, hb1⟩
  obtain ⟨rA, rV, hbw, hz⟩ := rows2 hb1
  have RA := Lib.hid rA; have RV := Lib.hid rV; have Hbw := Lib.hid hbw
  have cA := rowc rA; have cV := rowc rV
  clear hb1 rA rV hbw
  go_wp2_with fail
  refine (HS.out _).mono ?_; rintro e w2 ⟨rfl, hb2⟩
  replace RA := Lib.hid (row_keep hb2 RA.out); replace RV := Lib.hid (row_keep hb2 RV.out); replace Hbw := Lib.hid (Hbw.out.trans (hb2.mono Hbw.out.size))
  clear hb2 cA cV
  have cA := rowc RA.out; have cV := rowc RV.out
  go_wp2_with fail
  refine (HI.out _).mono ?_; rintro e w3 ⟨rfl, hb3⟩
  replace RA := Lib.hid (row_keep hb3 RA.out); replace RV := Lib.hid (row_keep hb3 RV.out); replace Hbw := Lib.hid (Hbw.out.trans (hb3.mono Hbw.out.size))
  clear hb3 cA cV
  have cA := rowc RA.out; have cV := rowc RV.out
  go_upto_region 11 with fail
  go_cut [12, 13] (fun s12 s13 wx => s12 = .bool false ∧ s13 = .iface 232 (.pointer (some (adr 1))) ∧ Below w3.heap.size w3 wx)
  case first =>
    have HB := Lib.hid (Below.refl w3.heap.size w3)
    go_region_held3 (fun w' => (∀ j, w'.cell? ⟨w.heap.size, j, none⟩ = (#[.int .i64 ae, .int .i64 an, .bool ah, .int .i64 al.k, .int .i64 al.n, .string al.s, .int .i64 aH.k, .int .i64 aH.n, .string aH.s] : Array Value)[j]?) ∧ (∀ j, w'.cell? ⟨w.heap.size + 1, j, none⟩ = (#[.int .i64 v.k, .int .i64 v.n, .string v.s] : Array Value)[j]?))
      (first | (with_reducible exact ⟨rowc RA.out, rowc RV.out⟩) | (with_reducible exact ⟨rowc_drew RA.out, rowc_drew RV.out⟩))
      (first
      | (go_at_call 18; (with_reducible refine (HSA.out _).mono ?_); rintro e w9 ⟨rfl, hb9⟩; (first | (with_reducible have hbs := drew_first hb9) | (have hbs := hb9)); replace RA := Lib.hid (row_keep hbs RA.out); replace RV := Lib.hid (row_keep hbs RV.out); replace HB := Lib.hid (HB.out.trans (hbs.mono HB.out.size)); clear hb9 hbs)
      | (go_at_call 25; (with_reducible refine (HM.out _ ?_).mono ?_); (focus (first | exact (Hbw.out.trans (HB.out.mono Hbw.out.size)) | exact (Hbw.out.trans (HB.out.mono Hbw.out.size)).drew)); rintro e w9 ⟨rfl, hb9⟩; (first | (with_reducible have hbs := drew_first hb9) | (have hbs := hb9)); replace RA := Lib.hid (row_keep hbs RA.out); replace RV := Lib.hid (row_keep hbs RV.out); replace HB := Lib.hid (HB.out.trans (hbs.mono HB.out.size)); clear hb9 hbs))
    all_goals (go_wp2_with fail; go_meet)
    all_goals (exact ⟨rfl, rfl, HB.out⟩)
  case rest =>
    obtain ⟨rfl, rfl, hbx⟩ := hcut
    replace RA := Lib.hid (row_keep hbx RA.out); replace RV := Lib.hid (row_keep hbx RV.out); replace Hbw := Lib.hid (Hbw.out.trans (hbx.mono Hbw.out.size))
    clear cA cV hbx
    have cA := rowc RA.out; have cV := rowc RV.out
    go_wp2_with fail
    refine (HCd.out _ (HE.out.below Hbw.out)).mono ?_; rintro e w5 ⟨rfl, hb5⟩
    have hb6 := Hbw.out.trans (hb5.mono Hbw.out.size)
    clear hb5 cA cV
    go_wp2_with fail
    go_ret
    exact ⟨rfl, hb6⟩

set_option maxRecDepth 100000 in
set_option maxHeartbeats 8000000 in
theorem smay_err2 (a : St) (s : ByteArray) (hs : s.size ≤ 100) (v : Val) (x i : Bool) (w : World) (adr : Nat → Addr) (hE : ErrEnv w adr)
    (hS : ∀ w1, Calls Tryd.prog 23 #[.agg (valA v), .string s, .agg (valA v)] w1 fun e w' => e = .returned (.tuple #[.bool x, .bool true]) ∧ Below w1.heap.size w1 w')
    (hI : ∀ w1, Calls Tryd.prog 24 #[.int .i64 v.k, .agg (valA v)] w1 fun e w' => e = .returned (.bool false) ∧ Below w1.heap.size w1 w')
    (hM : ∀ w1, Below w.heap.size w w1 → Calls Tryd.prog 25 #[.agg (stA a), .string s, .agg (valA v)] w1 fun e w' => e = .returned (.tuple #[.bool false, .iface 232 (.pointer (some (adr 4)))]) ∧ Below w1.heap.size w1 w') :
    Calls Tryd.prog 5 #[.agg (stA a), .string s, .agg (valA v)] w fun e w' => e = .returned (.bool true) ∧ Below w.heap.size w w' := by
  have HCd := Lib.hid (fun (w1 : World) (h : ErrEnv w1 adr) => show Calls Tryd.prog 22 #[.iface 232 (.pointer (some (adr 4))), .int .i64 4] w1 fun r w' => r = .returned (.bool true) ∧ Below w1.heap.size w1 w' from
        (coded_any (w := w1) (adr := adr) (e := .sent 4) (v := .iface 232 (.pointer (some (adr 4)))) 4 h ⟨by decide, by decide, rfl⟩).mono fun r w' ⟨h1, h2⟩ => ⟨h1.trans (ret_of (by simp [GErr.code, GErr.at'])), h2⟩)
  have hs3 : (s.size : Int) ≤ 100 := by omega
  clear hs
  have H2 := Lib.hid (fun (w1 : World) (h : Below w.heap.size w w1) => two_any w1 adr (hE.errs.sub (by decide) |>.below h))
  have HE := Lib.hid hE
  obtain ⟨ae, an, ah, al, aH⟩ := a
  have hSA := fun w1 => statsOf_any ⟨ae, an, ah, al, aH⟩ w1
  simp only [stA, valA] at hSA hS hI hM
  have HSA := Lib.hid hSA; have HS := Lib.hid hS; have HI := Lib.hid hI; have HM := Lib.hid hM
  clear hE hS hI hM hSA
  simp only [stA, valA]
  go_enter Tryd.func5, Tryd.ntmps5
  go_wp2_with fail
  refine (H2.out _ (((Below.refl _ _).alloc (Nat.le_refl _) _).alloc (by simp) _)).mono ?_; rintro e w1 ⟨rfl, hb1⟩
  obtain ⟨rA, rV, hbw, hz⟩ := rows2 hb1
  have RA := Lib.hid rA; have RV := Lib.hid rV; have Hbw := Lib.hid hbw
  have cA := rowc rA; have cV := rowc rV
  clear hb1 rA rV hbw
  go_wp2_with fail
  refine (HS.out _).mono ?_; rintro e w2 ⟨rfl, hb2⟩
  replace RA := Lib.hid (row_keep hb2 RA.out); replace RV := Lib.hid (row_keep hb2 RV.out); replace Hbw := Lib.hid (Hbw.out.trans (hb2.mono Hbw.out.size))
  clear hb2 cA cV
  have cA := rowc RA.out; have cV := rowc RV.out
  go_wp2_with fail
  refine (HI.out _).mono ?_; rintro e w3 ⟨rfl, hb3⟩
  replace RA := Lib.hid (row_keep hb3 RA.out); replace RV := Lib.hid (row_keep hb3 RV.out); replace Hbw := Lib.hid (Hbw.out.trans (hb3.mono Hbw.out.size))
  clear hb3 cA cV
  have cA := rowc RA.out; have cV := rowc RV.out
  go_upto_region 11 with fail
  go_cut [12, 13] (fun s12 s13 wx => s12 = .bool false ∧ s13 = .iface 232 (.pointer (some (adr 4))) ∧ Below w3.heap.size w3 wx)
  case first =>
    have HB := Lib.hid (Below.refl w3.heap.size w3)
    go_region_held3 (fun w' => (∀ j, w'.cell? ⟨w.heap.size, j, none⟩ = (#[.int .i64 ae, .int .i64 an, .bool ah, .int .i64 al.k, .int .i64 al.n, .string al.s, .int .i64 aH.k, .int .i64 aH.n, .string aH.s] : Array Value)[j]?) ∧ (∀ j, w'.cell? ⟨w.heap.size + 1, j, none⟩ = (#[.int .i64 v.k, .int .i64 v.n, .string v.s] : Array Value)[j]?))
      (first | (with_reducible exact ⟨rowc RA.out, rowc RV.out⟩) | (with_reducible exact ⟨rowc_drew RA.out, rowc_drew RV.out⟩))
      (first
      | (go_at_call 18; (with_reducible refine (HSA.out _).mono ?_); rintro e w9 ⟨rfl, hb9⟩; (first | (with_reducible have hbs := drew_first hb9) | (have hbs := hb9)); replace RA := Lib.hid (row_keep hbs RA.out); replace RV := Lib.hid (row_keep hbs RV.out); replace HB := Lib.hid (HB.out.trans (hbs.mono HB.out.size)); clear hb9 hbs)
      | (go_at_call 25; (with_reducible refine (HM.out _ ?_).mono ?_); (focus (first | exact (Hbw.out.trans (HB.out.mono Hbw.out.size)) | exact (Hbw.out.trans (HB.out.mono Hbw.out.size)).drew)); rintro e w9 ⟨rfl, hb9⟩; (first | (with_reducible have hbs := drew_first hb9) | (have hbs := hb9)); replace RA := Lib.hid (row_keep hbs RA.out); replace RV := Lib.hid (row_keep hbs RV.out); replace HB := Lib.hid (HB.out.trans (hbs.mono HB.out.size)); clear hb9 hbs))
    all_goals (go_wp2_with fail; go_meet)
    all_goals (exact ⟨rfl, rfl, HB.out⟩)
  case rest =>
    obtain ⟨rfl, rfl, hbx⟩ := hcut
    replace RA := Lib.hid (row_keep hbx RA.out); replace RV := Lib.hid (row_keep hbx RV.out); replace Hbw := Lib.hid (Hbw.out.trans (hbx.mono Hbw.out.size))
    clear cA cV hbx
    have cA := rowc RA.out; have cV := rowc RV.out
    go_wp2_with fail
    refine (HCd.out _ (HE.out.below Hbw.out)).mono ?_; rintro e w5 ⟨rfl, hb5⟩
    have hb6 := Hbw.out.trans (hb5.mono Hbw.out.size)
    clear hb5 cA cV
    go_wp2_with fail
    go_ret
    exact ⟨rfl, hb6⟩

set_option maxRecDepth 100000 in
set_option maxHeartbeats 8000000 in
theorem smay_err3 (a : St) (s : ByteArray) (hs : s.size ≤ 100) (v : Val) (x i : Bool) (w : World) (adr : Nat → Addr) (hE : ErrEnv w adr)
    (hS : ∀ w1, Calls Tryd.prog 23 #[.agg (valA v), .string s, .agg (valA v)] w1 fun e w' => e = .returned (.tuple #[.bool x, .bool true]) ∧ Below w1.heap.size w1 w')
    (hI : ∀ w1, Calls Tryd.prog 24 #[.int .i64 v.k, .agg (valA v)] w1 fun e w' => e = .returned (.bool true) ∧ Below w1.heap.size w1 w')
    (hM : ∀ w1, Below w.heap.size w w1 → Calls Tryd.prog 25 #[.agg (stA a), .string s, .agg (valA v)] w1 fun e w' => e = .returned (.tuple #[.bool false, .iface 232 (.pointer (some (adr 4)))]) ∧ Below w1.heap.size w1 w') (h2 : a.has = true) (h3 : (a.lo.k != v.k) = true) :
    Calls Tryd.prog 5 #[.agg (stA a), .string s, .agg (valA v)] w fun e w' => e = .returned (.bool true) ∧ Below w.heap.size w w' := by
  have HCd := Lib.hid (fun (w1 : World) (h : ErrEnv w1 adr) => show Calls Tryd.prog 22 #[.iface 232 (.pointer (some (adr 4))), .int .i64 4] w1 fun r w' => r = .returned (.bool true) ∧ Below w1.heap.size w1 w' from
        (coded_any (w := w1) (adr := adr) (e := .sent 4) (v := .iface 232 (.pointer (some (adr 4)))) 4 h ⟨by decide, by decide, rfl⟩).mono fun r w' ⟨h1, h2⟩ => ⟨h1.trans (ret_of (by simp [GErr.code, GErr.at'])), h2⟩)
  have hs3 : (s.size : Int) ≤ 100 := by omega
  clear hs
  have H2 := Lib.hid (fun (w1 : World) (h : Below w.heap.size w w1) => two_any w1 adr (hE.errs.sub (by decide) |>.below h))
  have HE := Lib.hid hE
  obtain ⟨ae, an, ah, al, aH⟩ := a
  have hSA := fun w1 => statsOf_any ⟨ae, an, ah, al, aH⟩ w1
  simp only [stA, valA] at hSA hS hI hM
  have HSA := Lib.hid hSA; have HS := Lib.hid hS; have HI := Lib.hid hI; have HM := Lib.hid hM
  clear hE hS hI hM hSA
  simp only [stA, valA]
  simp only at h2 h3
  subst h2
  go_enter Tryd.func5, Tryd.ntmps5
  go_wp2_with fail
  refine (H2.out _ (((Below.refl _ _).alloc (Nat.le_refl _) _).alloc (by simp) _)).mono ?_; rintro e w1 ⟨rfl, hb1⟩
  obtain ⟨rA, rV, hbw, hz⟩ := rows2 hb1
  have RA := Lib.hid rA; have RV := Lib.hid rV; have Hbw := Lib.hid hbw
  have cA := rowc rA; have cV := rowc rV
  clear hb1 rA rV hbw
  go_wp2_with fail
  refine (HS.out _).mono ?_; rintro e w2 ⟨rfl, hb2⟩
  replace RA := Lib.hid (row_keep hb2 RA.out); replace RV := Lib.hid (row_keep hb2 RV.out); replace Hbw := Lib.hid (Hbw.out.trans (hb2.mono Hbw.out.size))
  clear hb2 cA cV
  have cA := rowc RA.out; have cV := rowc RV.out
  go_wp2_with fail
  refine (HI.out _).mono ?_; rintro e w3 ⟨rfl, hb3⟩
  replace RA := Lib.hid (row_keep hb3 RA.out); replace RV := Lib.hid (row_keep hb3 RV.out); replace Hbw := Lib.hid (Hbw.out.trans (hb3.mono Hbw.out.size))
  clear hb3 cA cV
  have cA := rowc RA.out; have cV := rowc RV.out
  go_upto_region 11 with fail
  go_cut [12, 13] (fun s12 s13 wx => s12 = .bool false ∧ s13 = .iface 232 (.pointer (some (adr 4))) ∧ Below w3.heap.size w3 wx)
  case first =>
    have HB := Lib.hid (Below.refl w3.heap.size w3)
    go_region_held3 (fun w' => (∀ j, w'.cell? ⟨w.heap.size, j, none⟩ = (#[.int .i64 ae, .int .i64 an, .bool true, .int .i64 al.k, .int .i64 al.n, .string al.s, .int .i64 aH.k, .int .i64 aH.n, .string aH.s] : Array Value)[j]?) ∧ (∀ j, w'.cell? ⟨w.heap.size + 1, j, none⟩ = (#[.int .i64 v.k, .int .i64 v.n, .string v.s] : Array Value)[j]?))
      (first | (with_reducible exact ⟨rowc RA.out, rowc RV.out⟩) | (with_reducible exact ⟨rowc_drew RA.out, rowc_drew RV.out⟩))
      (first
      | (go_at_call 18; (with_reducible refine (HSA.out _).mono ?_); rintro e w9 ⟨rfl, hb9⟩; (first | (with_reducible have hbs := drew_first hb9) | (have hbs := hb9)); replace RA := Lib.hid (row_keep hbs RA.out); replace RV := Lib.hid (row_keep hbs RV.out); replace HB := Lib.hid (HB.out.trans (hbs.mono HB.out.size)); clear hb9 hbs)
      | (go_at_call 25; (with_reducible refine (HM.out _ ?_).mono ?_); (focus (first | exact (Hbw.out.trans (HB.out.mono Hbw.out.size)) | exact (Hbw.out.trans (HB.out.mono Hbw.out.size)).drew)); rintro e w9 ⟨rfl, hb9⟩; (first | (with_reducible have hbs := drew_first hb9) | (have hbs := hb9)); replace RA := Lib.hid (row_keep hbs RA.out); replace RV := Lib.hid (row_keep hbs RV.out); replace HB := Lib.hid (HB.out.trans (hbs.mono HB.out.size)); clear hb9 hbs))
    all_goals (go_wp2_with fail; go_meet)
    all_goals (exact ⟨rfl, rfl, HB.out⟩)
  case rest =>
    obtain ⟨rfl, rfl, hbx⟩ := hcut
    replace RA := Lib.hid (row_keep hbx RA.out); replace RV := Lib.hid (row_keep hbx RV.out); replace Hbw := Lib.hid (Hbw.out.trans (hbx.mono Hbw.out.size))
    clear cA cV hbx
    have cA := rowc RA.out; have cV := rowc RV.out
    go_wp2_with fail
    refine (HCd.out _ (HE.out.below Hbw.out)).mono ?_; rintro e w5 ⟨rfl, hb5⟩
    have hb6 := Hbw.out.trans (hb5.mono Hbw.out.size)
    clear hb5 cA cV
    go_wp2_with fail
    go_ret
    exact ⟨rfl, hb6⟩

set_option maxRecDepth 100000 in
set_option maxHeartbeats 16000000 in
theorem smay_right (a : St) (s : ByteArray) (hs : s.size ≤ 100) (v : Val) (x m mB li ri lb : Bool) (w : World) (adr : Nat → Addr) (hE : ErrEnv w adr)
    (hS : ∀ w1, Calls Tryd.prog 23 #[.agg (valA v), .string s, .agg (valA v)] w1 fun e w' => e = .returned (.tuple #[.bool x, .bool true]) ∧ Below w1.heap.size w1 w')
    (hI : ∀ w1, Calls Tryd.prog 24 #[.int .i64 v.k, .agg (valA v)] w1 fun e w' => e = .returned (.bool true) ∧ Below w1.heap.size w1 w')
    (hM : ∀ w1, Below w.heap.size w w1 → Calls Tryd.prog 25 #[.agg (stA a), .string s, .agg (valA v)] w1 fun e w' => e = .returned (.tuple #[.bool m, .nilIface]) ∧ Below w1.heap.size w1 w')
    (hL : ∀ w1, Calls Tryd.prog 24 #[.int .i64 v.k, .agg (valA a.lo)] w1 fun e w' => e = .returned (.bool li) ∧ Below w1.heap.size w1 w')
    (hH : ∀ w1, Calls Tryd.prog 24 #[.int .i64 v.k, .agg (valA a.hi)] w1 fun e w' => e = .returned (.bool ri) ∧ Below w1.heap.size w1 w')
    (hF : ∀ w1, Calls Tryd.prog 26 #[.agg (valA a.hi), .agg (valA a.lo)] w1 fun e w' => e = .returned (.bool lb) ∧ Below w1.heap.size w1 w')
    (hB : ∀ w1, Calls Tryd.prog 27 #[.agg (stA a), .string s, .agg (valA v)] w1 fun e w' => e = .returned (.bool mB) ∧ Below w1.heap.size w1 w')
    (hn : a.has = true → (a.lo.k != v.k) = false) (hm : a.has = false ∨ li = true ∧ ri = true ∧ lb = false → m = mB) :
    Calls Tryd.prog 5 #[.agg (stA a), .string s, .agg (valA v)] w fun e w' => e = .returned (.bool true) ∧ Below w.heap.size w w' := by
  have hs3 : (s.size : Int) ≤ 100 := by omega
  clear hs
  have H2 := Lib.hid (fun (w1 : World) (h : Below w.heap.size w w1) => two_any w1 adr (hE.errs.sub (by decide) |>.below h))
  have HE := Lib.hid hE
  obtain ⟨ae, an, ah, al, aH⟩ := a
  have hSA := fun w1 => statsOf_any ⟨ae, an, ah, al, aH⟩ w1
  simp only [stA, valA] at hSA hS hI hM
  have HSA := Lib.hid hSA; have HS := Lib.hid hS; have HI := Lib.hid hI; have HM := Lib.hid hM
  clear hE hS hI hM hSA
  simp only [stA, valA]
  simp only [stA, valA] at hL hH hF hB hn hm
  have HL := Lib.hid hL; have HH := Lib.hid hH; have HF := Lib.hid hF; have HB2 := Lib.hid hB
  clear hL hH hF hB
  have key : ∀ (P : Bool → Bool → Bool → Bool → Prop), (m = mB → P false li ri lb) → P true false ri lb → P true true false lb → P true true true true → (m = mB → P true true true false) → P ah li ri lb := by
    intro P p1 p2 p3 p4 p5
    cases ah
    · exact p1 (hm (.inl rfl))
    · cases li
      · exact p2
      · cases ri
        · exact p3
        · cases lb
          · exact p5 (hm (.inr ⟨rfl, rfl, rfl⟩))
          · exact p4
  clear hm
  revert HSA HM HL HH HF HB2 hn
  apply key
  all_goals clear key
  · as_aux_lemma =>
    intro he; subst he; intro hn HSA HM HL HH HF HB2
    clear hn
    go_enter Tryd.func5, Tryd.ntmps5
    go_wp2_with fail
    refine (H2.out _ (((Below.refl _ _).alloc (Nat.le_refl _) _).alloc (by simp) _)).mono ?_; rintro e w1 ⟨rfl, hb1⟩
    obtain ⟨rA, rV, hbw, hz⟩ := rows2 hb1
    have RA := Lib.hid rA; have RV := Lib.hid rV; have Hbw := Lib.hid hbw
    have cA := rowc rA; have cV := rowc rV
    clear hb1 rA rV hbw
    go_wp2_with fail
    refine (HS.out _).mono ?_; rintro e w2 ⟨rfl, hb2⟩
    replace RA := Lib.hid (row_keep hb2 RA.out); replace RV := Lib.hid (row_keep hb2 RV.out); replace Hbw := Lib.hid (Hbw.out.trans (hb2.mono Hbw.out.size))
    clear hb2 cA cV
    have cA := rowc RA.out; have cV := rowc RV.out
    go_wp2_with fail
    refine (HI.out _).mono ?_; rintro e w3 ⟨rfl, hb3⟩
    replace RA := Lib.hid (row_keep hb3 RA.out); replace RV := Lib.hid (row_keep hb3 RV.out); replace Hbw := Lib.hid (Hbw.out.trans (hb3.mono Hbw.out.size))
    clear hb3 cA cV
    have cA := rowc RA.out; have cV := rowc RV.out
    go_upto_region 11 with fail
    go_cut [12, 13] (fun s12 s13 wx => s12 = .bool m ∧ s13 = .nilIface ∧ Below w3.heap.size w3 wx)
    case first =>
      have HB := Lib.hid (Below.refl w3.heap.size w3)
      go_region_held3 (fun w' => (∀ j, w'.cell? ⟨w.heap.size, j, none⟩ = (#[.int .i64 ae, .int .i64 an, .bool false, .int .i64 al.k, .int .i64 al.n, .string al.s, .int .i64 aH.k, .int .i64 aH.n, .string aH.s] : Array Value)[j]?) ∧ (∀ j, w'.cell? ⟨w.heap.size + 1, j, none⟩ = (#[.int .i64 v.k, .int .i64 v.n, .string v.s] : Array Value)[j]?))
      (first | (with_reducible exact ⟨rowc RA.out, rowc RV.out⟩) | (with_reducible exact ⟨rowc_drew RA.out, rowc_drew RV.out⟩))
        (first
        | (go_at_call 18; (with_reducible refine (HSA.out _).mono ?_); rintro e w9 ⟨rfl, hb9⟩; (first | (with_reducible have hbs := drew_first hb9) | (have hbs := hb9)); replace RA := Lib.hid (row_keep hbs RA.out); replace RV := Lib.hid (row_keep hbs RV.out); replace HB := Lib.hid (HB.out.trans (hbs.mono HB.out.size)); clear hb9 hbs)
        | (go_at_call 25; (with_reducible refine (HM.out _ ?_).mono ?_); (focus (first | exact (Hbw.out.trans (HB.out.mono Hbw.out.size)) | exact (Hbw.out.trans (HB.out.mono Hbw.out.size)).drew)); rintro e w9 ⟨rfl, hb9⟩; (first | (with_reducible have hbs := drew_first hb9) | (have hbs := hb9)); replace RA := Lib.hid (row_keep hbs RA.out); replace RV := Lib.hid (row_keep hbs RV.out); replace HB := Lib.hid (HB.out.trans (hbs.mono HB.out.size)); clear hb9 hbs))
      all_goals (go_wp2_with fail; go_meet)
      all_goals (exact ⟨rfl, rfl, HB.out⟩)
    case rest =>
      obtain ⟨rfl, rfl, hbx⟩ := hcut
      replace RA := Lib.hid (row_keep hbx RA.out); replace RV := Lib.hid (row_keep hbx RV.out); replace Hbw := Lib.hid (Hbw.out.trans (hbx.mono Hbw.out.size))
      clear cA cV hbx
      have cA := rowc RA.out; have cV := rowc RV.out
      go_wp2_with fail
      refine (HL.out _).mono ?_; rintro e w5 ⟨rfl, hb5⟩
      replace RA := Lib.hid (row_keep hb5 RA.out); replace RV := Lib.hid (row_keep hb5 RV.out); replace Hbw := Lib.hid (Hbw.out.trans (hb5.mono Hbw.out.size))
      clear hb5 cA cV
      have cA := rowc RA.out; have cV := rowc RV.out
      go_wp2_with fail
      refine (HH.out _).mono ?_; rintro e w6 ⟨rfl, hb6⟩
      replace RA := Lib.hid (row_keep hb6 RA.out); replace RV := Lib.hid (row_keep hb6 RV.out); replace Hbw := Lib.hid (Hbw.out.trans (hb6.mono Hbw.out.size))
      clear hb6 cA cV
      have cA := rowc RA.out; have cV := rowc RV.out
      go_wp2_with fail
      refine (HB2.out _).mono ?_; rintro e w7 ⟨rfl, hb7⟩
      replace RA := Lib.hid (row_keep hb7 RA.out); replace RV := Lib.hid (row_keep hb7 RV.out); replace Hbw := Lib.hid (Hbw.out.trans (hb7.mono Hbw.out.size))
      clear hb7 cA cV
      have cA := rowc RA.out; have cV := rowc RV.out
      cases m <;> (go_wp2_with fail; go_ret; exact ⟨rfl, Hbw.out⟩)
  · as_aux_lemma =>
    intro hn HSA HM HL HH HF HB2
    have h3 := hn rfl
    clear hn
    go_enter Tryd.func5, Tryd.ntmps5
    go_wp2_with fail
    refine (H2.out _ (((Below.refl _ _).alloc (Nat.le_refl _) _).alloc (by simp) _)).mono ?_; rintro e w1 ⟨rfl, hb1⟩
    obtain ⟨rA, rV, hbw, hz⟩ := rows2 hb1
    have RA := Lib.hid rA; have RV := Lib.hid rV; have Hbw := Lib.hid hbw
    have cA := rowc rA; have cV := rowc rV
    clear hb1 rA rV hbw
    go_wp2_with fail
    refine (HS.out _).mono ?_; rintro e w2 ⟨rfl, hb2⟩
    replace RA := Lib.hid (row_keep hb2 RA.out); replace RV := Lib.hid (row_keep hb2 RV.out); replace Hbw := Lib.hid (Hbw.out.trans (hb2.mono Hbw.out.size))
    clear hb2 cA cV
    have cA := rowc RA.out; have cV := rowc RV.out
    go_wp2_with fail
    refine (HI.out _).mono ?_; rintro e w3 ⟨rfl, hb3⟩
    replace RA := Lib.hid (row_keep hb3 RA.out); replace RV := Lib.hid (row_keep hb3 RV.out); replace Hbw := Lib.hid (Hbw.out.trans (hb3.mono Hbw.out.size))
    clear hb3 cA cV
    have cA := rowc RA.out; have cV := rowc RV.out
    go_upto_region 11 with fail
    go_cut [12, 13] (fun s12 s13 wx => s12 = .bool m ∧ s13 = .nilIface ∧ Below w3.heap.size w3 wx)
    case first =>
      have HB := Lib.hid (Below.refl w3.heap.size w3)
      go_region_held3 (fun w' => (∀ j, w'.cell? ⟨w.heap.size, j, none⟩ = (#[.int .i64 ae, .int .i64 an, .bool true, .int .i64 al.k, .int .i64 al.n, .string al.s, .int .i64 aH.k, .int .i64 aH.n, .string aH.s] : Array Value)[j]?) ∧ (∀ j, w'.cell? ⟨w.heap.size + 1, j, none⟩ = (#[.int .i64 v.k, .int .i64 v.n, .string v.s] : Array Value)[j]?))
      (first | (with_reducible exact ⟨rowc RA.out, rowc RV.out⟩) | (with_reducible exact ⟨rowc_drew RA.out, rowc_drew RV.out⟩))
        (first
        | (go_at_call 18; (with_reducible refine (HSA.out _).mono ?_); rintro e w9 ⟨rfl, hb9⟩; (first | (with_reducible have hbs := drew_first hb9) | (have hbs := hb9)); replace RA := Lib.hid (row_keep hbs RA.out); replace RV := Lib.hid (row_keep hbs RV.out); replace HB := Lib.hid (HB.out.trans (hbs.mono HB.out.size)); clear hb9 hbs)
        | (go_at_call 25; (with_reducible refine (HM.out _ ?_).mono ?_); (focus (first | exact (Hbw.out.trans (HB.out.mono Hbw.out.size)) | exact (Hbw.out.trans (HB.out.mono Hbw.out.size)).drew)); rintro e w9 ⟨rfl, hb9⟩; (first | (with_reducible have hbs := drew_first hb9) | (have hbs := hb9)); replace RA := Lib.hid (row_keep hbs RA.out); replace RV := Lib.hid (row_keep hbs RV.out); replace HB := Lib.hid (HB.out.trans (hbs.mono HB.out.size)); clear hb9 hbs))
      all_goals (go_wp2_with fail; go_meet)
      all_goals (exact ⟨rfl, rfl, HB.out⟩)
    case rest =>
      obtain ⟨rfl, rfl, hbx⟩ := hcut
      replace RA := Lib.hid (row_keep hbx RA.out); replace RV := Lib.hid (row_keep hbx RV.out); replace Hbw := Lib.hid (Hbw.out.trans (hbx.mono Hbw.out.size))
      clear cA cV hbx
      have cA := rowc RA.out; have cV := rowc RV.out
      go_wp2_with fail
      refine (HL.out _).mono ?_; rintro e w5 ⟨rfl, hb5⟩
      replace RA := Lib.hid (row_keep hb5 RA.out); replace RV := Lib.hid (row_keep hb5 RV.out); replace Hbw := Lib.hid (Hbw.out.trans (hb5.mono Hbw.out.size))
      clear hb5 cA cV
      have cA := rowc RA.out; have cV := rowc RV.out
      go_wp2_with fail
      refine (HH.out _).mono ?_; rintro e w6 ⟨rfl, hb6⟩
      replace RA := Lib.hid (row_keep hb6 RA.out); replace RV := Lib.hid (row_keep hb6 RV.out); replace Hbw := Lib.hid (Hbw.out.trans (hb6.mono Hbw.out.size))
      clear hb6 cA cV
      have cA := rowc RA.out; have cV := rowc RV.out
      go_wp2_with fail
      go_ret
      exact ⟨rfl, Hbw.out⟩
  · as_aux_lemma =>
    intro hn HSA HM HL HH HF HB2
    have h3 := hn rfl
    clear hn
    go_enter Tryd.func5, Tryd.ntmps5
    go_wp2_with fail
    refine (H2.out _ (((Below.refl _ _).alloc (Nat.le_refl _) _).alloc (by simp) _)).mono ?_; rintro e w1 ⟨rfl, hb1⟩
    obtain ⟨rA, rV, hbw, hz⟩ := rows2 hb1
    have RA := Lib.hid rA; have RV := Lib.hid rV; have Hbw := Lib.hid hbw
    have cA := rowc rA; have cV := rowc rV
    clear hb1 rA rV hbw
    go_wp2_with fail
    refine (HS.out _).mono ?_; rintro e w2 ⟨rfl, hb2⟩
    replace RA := Lib.hid (row_keep hb2 RA.out); replace RV := Lib.hid (row_keep hb2 RV.out); replace Hbw := Lib.hid (Hbw.out.trans (hb2.mono Hbw.out.size))
    clear hb2 cA cV
    have cA := rowc RA.out; have cV := rowc RV.out
    go_wp2_with fail
    refine (HI.out _).mono ?_; rintro e w3 ⟨rfl, hb3⟩
    replace RA := Lib.hid (row_keep hb3 RA.out); replace RV := Lib.hid (row_keep hb3 RV.out); replace Hbw := Lib.hid (Hbw.out.trans (hb3.mono Hbw.out.size))
    clear hb3 cA cV
    have cA := rowc RA.out; have cV := rowc RV.out
    go_upto_region 11 with fail
    go_cut [12, 13] (fun s12 s13 wx => s12 = .bool m ∧ s13 = .nilIface ∧ Below w3.heap.size w3 wx)
    case first =>
      have HB := Lib.hid (Below.refl w3.heap.size w3)
      go_region_held3 (fun w' => (∀ j, w'.cell? ⟨w.heap.size, j, none⟩ = (#[.int .i64 ae, .int .i64 an, .bool true, .int .i64 al.k, .int .i64 al.n, .string al.s, .int .i64 aH.k, .int .i64 aH.n, .string aH.s] : Array Value)[j]?) ∧ (∀ j, w'.cell? ⟨w.heap.size + 1, j, none⟩ = (#[.int .i64 v.k, .int .i64 v.n, .string v.s] : Array Value)[j]?))
      (first | (with_reducible exact ⟨rowc RA.out, rowc RV.out⟩) | (with_reducible exact ⟨rowc_drew RA.out, rowc_drew RV.out⟩))
        (first
        | (go_at_call 18; (with_reducible refine (HSA.out _).mono ?_); rintro e w9 ⟨rfl, hb9⟩; (first | (with_reducible have hbs := drew_first hb9) | (have hbs := hb9)); replace RA := Lib.hid (row_keep hbs RA.out); replace RV := Lib.hid (row_keep hbs RV.out); replace HB := Lib.hid (HB.out.trans (hbs.mono HB.out.size)); clear hb9 hbs)
        | (go_at_call 25; (with_reducible refine (HM.out _ ?_).mono ?_); (focus (first | exact (Hbw.out.trans (HB.out.mono Hbw.out.size)) | exact (Hbw.out.trans (HB.out.mono Hbw.out.size)).drew)); rintro e w9 ⟨rfl, hb9⟩; (first | (with_reducible have hbs := drew_first hb9) | (have hbs := hb9)); replace RA := Lib.hid (row_keep hbs RA.out); replace RV := Lib.hid (row_keep hbs RV.out); replace HB := Lib.hid (HB.out.trans (hbs.mono HB.out.size)); clear hb9 hbs))
      all_goals (go_wp2_with fail; go_meet)
      all_goals (exact ⟨rfl, rfl, HB.out⟩)
    case rest =>
      obtain ⟨rfl, rfl, hbx⟩ := hcut
      replace RA := Lib.hid (row_keep hbx RA.out); replace RV := Lib.hid (row_keep hbx RV.out); replace Hbw := Lib.hid (Hbw.out.trans (hbx.mono Hbw.out.size))
      clear cA cV hbx
      have cA := rowc RA.out; have cV := rowc RV.out
      go_wp2_with fail
      refine (HL.out _).mono ?_; rintro e w5 ⟨rfl, hb5⟩
      replace RA := Lib.hid (row_keep hb5 RA.out); replace RV := Lib.hid (row_keep hb5 RV.out); replace Hbw := Lib.hid (Hbw.out.trans (hb5.mono Hbw.out.size))
      clear hb5 cA cV
      have cA := rowc RA.out; have cV := rowc RV.out
      go_wp2_with fail
      refine (HH.out _).mono ?_; rintro e w6 ⟨rfl, hb6⟩
      replace RA := Lib.hid (row_keep hb6 RA.out); replace RV := Lib.hid (row_keep hb6 RV.out); replace Hbw := Lib.hid (Hbw.out.trans (hb6.mono Hbw.out.size))
      clear hb6 cA cV
      have cA := rowc RA.out; have cV := rowc RV.out
      go_wp2_with fail
      go_ret
      exact ⟨rfl, Hbw.out⟩
  · as_aux_lemma =>
    intro hn HSA HM HL HH HF HB2
    have h3 := hn rfl
    clear hn
    go_enter Tryd.func5, Tryd.ntmps5
    go_wp2_with fail
    refine (H2.out _ (((Below.refl _ _).alloc (Nat.le_refl _) _).alloc (by simp) _)).mono ?_; rintro e w1 ⟨rfl, hb1⟩
    obtain ⟨rA, rV, hbw, hz⟩ := rows2 hb1
    have RA := Lib.hid rA; have RV := Lib.hid rV; have Hbw := Lib.hid hbw
    have cA := rowc rA; have cV := rowc rV
    clear hb1 rA rV hbw
    go_wp2_with fail
    refine (HS.out _).mono ?_; rintro e w2 ⟨rfl, hb2⟩
    replace RA := Lib.hid (row_keep hb2 RA.out); replace RV := Lib.hid (row_keep hb2 RV.out); replace Hbw := Lib.hid (Hbw.out.trans (hb2.mono Hbw.out.size))
    clear hb2 cA cV
    have cA := rowc RA.out; have cV := rowc RV.out
    go_wp2_with fail
    refine (HI.out _).mono ?_; rintro e w3 ⟨rfl, hb3⟩
    replace RA := Lib.hid (row_keep hb3 RA.out); replace RV := Lib.hid (row_keep hb3 RV.out); replace Hbw := Lib.hid (Hbw.out.trans (hb3.mono Hbw.out.size))
    clear hb3 cA cV
    have cA := rowc RA.out; have cV := rowc RV.out
    go_upto_region 11 with fail
    go_cut [12, 13] (fun s12 s13 wx => s12 = .bool m ∧ s13 = .nilIface ∧ Below w3.heap.size w3 wx)
    case first =>
      have HB := Lib.hid (Below.refl w3.heap.size w3)
      go_region_held3 (fun w' => (∀ j, w'.cell? ⟨w.heap.size, j, none⟩ = (#[.int .i64 ae, .int .i64 an, .bool true, .int .i64 al.k, .int .i64 al.n, .string al.s, .int .i64 aH.k, .int .i64 aH.n, .string aH.s] : Array Value)[j]?) ∧ (∀ j, w'.cell? ⟨w.heap.size + 1, j, none⟩ = (#[.int .i64 v.k, .int .i64 v.n, .string v.s] : Array Value)[j]?))
      (first | (with_reducible exact ⟨rowc RA.out, rowc RV.out⟩) | (with_reducible exact ⟨rowc_drew RA.out, rowc_drew RV.out⟩))
        (first
        | (go_at_call 18; (with_reducible refine (HSA.out _).mono ?_); rintro e w9 ⟨rfl, hb9⟩; (first | (with_reducible have hbs := drew_first hb9) | (have hbs := hb9)); replace RA := Lib.hid (row_keep hbs RA.out); replace RV := Lib.hid (row_keep hbs RV.out); replace HB := Lib.hid (HB.out.trans (hbs.mono HB.out.size)); clear hb9 hbs)
        | (go_at_call 25; (with_reducible refine (HM.out _ ?_).mono ?_); (focus (first | exact (Hbw.out.trans (HB.out.mono Hbw.out.size)) | exact (Hbw.out.trans (HB.out.mono Hbw.out.size)).drew)); rintro e w9 ⟨rfl, hb9⟩; (first | (with_reducible have hbs := drew_first hb9) | (have hbs := hb9)); replace RA := Lib.hid (row_keep hbs RA.out); replace RV := Lib.hid (row_keep hbs RV.out); replace HB := Lib.hid (HB.out.trans (hbs.mono HB.out.size)); clear hb9 hbs))
      all_goals (go_wp2_with fail; go_meet)
      all_goals (exact ⟨rfl, rfl, HB.out⟩)
    case rest =>
      obtain ⟨rfl, rfl, hbx⟩ := hcut
      replace RA := Lib.hid (row_keep hbx RA.out); replace RV := Lib.hid (row_keep hbx RV.out); replace Hbw := Lib.hid (Hbw.out.trans (hbx.mono Hbw.out.size))
      clear cA cV hbx
      have cA := rowc RA.out; have cV := rowc RV.out
      go_wp2_with fail
      refine (HL.out _).mono ?_; rintro e w5 ⟨rfl, hb5⟩
      replace RA := Lib.hid (row_keep hb5 RA.out); replace RV := Lib.hid (row_keep hb5 RV.out); replace Hbw := Lib.hid (Hbw.out.trans (hb5.mono Hbw.out.size))
      clear hb5 cA cV
      have cA := rowc RA.out; have cV := rowc RV.out
      go_wp2_with fail
      refine (HH.out _).mono ?_; rintro e w6 ⟨rfl, hb6⟩
      replace RA := Lib.hid (row_keep hb6 RA.out); replace RV := Lib.hid (row_keep hb6 RV.out); replace Hbw := Lib.hid (Hbw.out.trans (hb6.mono Hbw.out.size))
      clear hb6 cA cV
      have cA := rowc RA.out; have cV := rowc RV.out
      go_wp2_with fail
      refine (HF.out _).mono ?_; rintro e w7 ⟨rfl, hb7⟩
      replace RA := Lib.hid (row_keep hb7 RA.out); replace RV := Lib.hid (row_keep hb7 RV.out); replace Hbw := Lib.hid (Hbw.out.trans (hb7.mono Hbw.out.size))
      clear hb7 cA cV
      have cA := rowc RA.out; have cV := rowc RV.out
      go_wp2_with fail
      go_ret
      exact ⟨rfl, Hbw.out⟩
  · as_aux_lemma =>
    intro he; subst he; intro hn HSA HM HL HH HF HB2
    have h3 := hn rfl
    clear hn
    go_enter Tryd.func5, Tryd.ntmps5
    go_wp2_with fail
    refine (H2.out _ (((Below.refl _ _).alloc (Nat.le_refl _) _).alloc (by simp) _)).mono ?_; rintro e w1 ⟨rfl, hb1⟩
    obtain ⟨rA, rV, hbw, hz⟩ := rows2 hb1
    have RA := Lib.hid rA; have RV := Lib.hid rV; have Hbw := Lib.hid hbw
    have cA := rowc rA; have cV := rowc rV
    clear hb1 rA rV hbw
    go_wp2_with fail
    refine (HS.out _).mono ?_; rintro e w2 ⟨rfl, hb2⟩
    replace RA := Lib.hid (row_keep hb2 RA.out); replace RV := Lib.hid (row_keep hb2 RV.out); replace Hbw := Lib.hid (Hbw.out.trans (hb2.mono Hbw.out.size))
    clear hb2 cA cV
    have cA := rowc RA.out; have cV := rowc RV.out
    go_wp2_with fail
    refine (HI.out _).mono ?_; rintro e w3 ⟨rfl, hb3⟩
    replace RA := Lib.hid (row_keep hb3 RA.out); replace RV := Lib.hid (row_keep hb3 RV.out); replace Hbw := Lib.hid (Hbw.out.trans (hb3.mono Hbw.out.size))
    clear hb3 cA cV
    have cA := rowc RA.out; have cV := rowc RV.out
    go_upto_region 11 with fail
    go_cut [12, 13] (fun s12 s13 wx => s12 = .bool m ∧ s13 = .nilIface ∧ Below w3.heap.size w3 wx)
    case first =>
      have HB := Lib.hid (Below.refl w3.heap.size w3)
      go_region_held3 (fun w' => (∀ j, w'.cell? ⟨w.heap.size, j, none⟩ = (#[.int .i64 ae, .int .i64 an, .bool true, .int .i64 al.k, .int .i64 al.n, .string al.s, .int .i64 aH.k, .int .i64 aH.n, .string aH.s] : Array Value)[j]?) ∧ (∀ j, w'.cell? ⟨w.heap.size + 1, j, none⟩ = (#[.int .i64 v.k, .int .i64 v.n, .string v.s] : Array Value)[j]?))
      (first | (with_reducible exact ⟨rowc RA.out, rowc RV.out⟩) | (with_reducible exact ⟨rowc_drew RA.out, rowc_drew RV.out⟩))
        (first
        | (go_at_call 18; (with_reducible refine (HSA.out _).mono ?_); rintro e w9 ⟨rfl, hb9⟩; (first | (with_reducible have hbs := drew_first hb9) | (have hbs := hb9)); replace RA := Lib.hid (row_keep hbs RA.out); replace RV := Lib.hid (row_keep hbs RV.out); replace HB := Lib.hid (HB.out.trans (hbs.mono HB.out.size)); clear hb9 hbs)
        | (go_at_call 25; (with_reducible refine (HM.out _ ?_).mono ?_); (focus (first | exact (Hbw.out.trans (HB.out.mono Hbw.out.size)) | exact (Hbw.out.trans (HB.out.mono Hbw.out.size)).drew)); rintro e w9 ⟨rfl, hb9⟩; (first | (with_reducible have hbs := drew_first hb9) | (have hbs := hb9)); replace RA := Lib.hid (row_keep hbs RA.out); replace RV := Lib.hid (row_keep hbs RV.out); replace HB := Lib.hid (HB.out.trans (hbs.mono HB.out.size)); clear hb9 hbs))
      all_goals (go_wp2_with fail; go_meet)
      all_goals (exact ⟨rfl, rfl, HB.out⟩)
    case rest =>
      obtain ⟨rfl, rfl, hbx⟩ := hcut
      replace RA := Lib.hid (row_keep hbx RA.out); replace RV := Lib.hid (row_keep hbx RV.out); replace Hbw := Lib.hid (Hbw.out.trans (hbx.mono Hbw.out.size))
      clear cA cV hbx
      have cA := rowc RA.out; have cV := rowc RV.out
      go_wp2_with fail
      refine (HL.out _).mono ?_; rintro e w5 ⟨rfl, hb5⟩
      replace RA := Lib.hid (row_keep hb5 RA.out); replace RV := Lib.hid (row_keep hb5 RV.out); replace Hbw := Lib.hid (Hbw.out.trans (hb5.mono Hbw.out.size))
      clear hb5 cA cV
      have cA := rowc RA.out; have cV := rowc RV.out
      go_wp2_with fail
      refine (HH.out _).mono ?_; rintro e w6 ⟨rfl, hb6⟩
      replace RA := Lib.hid (row_keep hb6 RA.out); replace RV := Lib.hid (row_keep hb6 RV.out); replace Hbw := Lib.hid (Hbw.out.trans (hb6.mono Hbw.out.size))
      clear hb6 cA cV
      have cA := rowc RA.out; have cV := rowc RV.out
      go_wp2_with fail
      refine (HF.out _).mono ?_; rintro e w7 ⟨rfl, hb7⟩
      replace RA := Lib.hid (row_keep hb7 RA.out); replace RV := Lib.hid (row_keep hb7 RV.out); replace Hbw := Lib.hid (Hbw.out.trans (hb7.mono Hbw.out.size))
      clear hb7 cA cV
      have cA := rowc RA.out; have cV := rowc RV.out
      go_wp2_with fail
      refine (HB2.out _).mono ?_; rintro e w8 ⟨rfl, hb8⟩
      replace RA := Lib.hid (row_keep hb8 RA.out); replace RV := Lib.hid (row_keep hb8 RV.out); replace Hbw := Lib.hid (Hbw.out.trans (hb8.mono Hbw.out.size))
      clear hb8 cA cV
      have cA := rowc RA.out; have cV := rowc RV.out
      cases m <;> (go_wp2_with fail; go_ret; exact ⟨rfl, Hbw.out⟩)

theorem statsMay_law (a : St) (ha : a.Ok) (s : ByteArray) (hs2 : s.size ≤ maxLen) (v : Val) (hv : v.Ok) (w : World) (hL : laidMetH Tryd.prog Rows.statsMayRow.laid w) :
    Calls Tryd.prog 5 #[.agg (stA a), .string s, .agg (valA v)] w fun e w' => e = .returned (.bool true) ∧ Below w.heap.size w w' := by
  have hL' : laidMetH Tryd.prog fullLaid w := hL
  obtain ⟨adr, hE⟩ := env_of_laid hL'
  by_cases hs : 100 < s.size
  · exact smay_early a s hs hs2 v w adr hE
  have hs' : s.size ≤ 100 := by omega
  have hS := fun w1 => (stands_both v v hv hv s).2 w1
  have hI := fun w1 => isValue_any v.k v hv w1
  have hER : ∀ w1, Below w.heap.size w w1 → ErrsAt w1 adr [1, 2, 4] := fun w1 h => (hE.errs.sub (by decide)).below h
  cases hk : standsO s (a.lo.less v) (v.less a.lo) with
  | none =>
    have hk2 : (standsO s (v.less v) (v.less v)).isSome = false := by rw [standsO_isSome s _ _ (a.lo.less v) (v.less a.lo), hk]; rfl
    rw [hk2] at hS
    exact smay_err1 a s hs' v _ _ w adr hE hS hI (fun w1 h => may_how a ha s v hv w1 adr (hER w1 h) hk)
  | some y =>
    have hk2 : (standsO s (v.less v) (v.less v)).isSome = true := by rw [standsO_isSome s _ _ (a.lo.less v) (v.less a.lo), hk]; rfl
    rw [hk2] at hS
    cases hi : isV v.k v with
    | false =>
      rw [hi] at hI
      have hn : valsErr v.k [v] ≠ .nil := fun h => by rw [(valsErr_one v).2 h] at hi; cases hi
      exact smay_err2 a s hs' v _ false w adr hE hS hI (fun w1 h => may_kind a ha s v hv w1 adr (hER w1 h) y hk hn)
    | true =>
      rw [hi] at hI
      have hn : valsErr v.k [v] = .nil := (valsErr_one v).1 hi
      by_cases h3 : a.has = true ∧ ¬ a.lo.k = v.k
      · exact smay_err3 a s hs' v _ false w adr hE hS hI (fun w1 h => may_kind2 a ha s v hv w1 adr (hER w1 h) y hk hn h3.1 h3.2) h3.1 (by simpa using h3.2)
      · have h4 : a.has = true → a.lo.k = v.k := fun h => by
          by_cases h5 : a.lo.k = v.k
          · exact h5
          · exact absurd ⟨h, h5⟩ h3
        refine smay_right a s hs' v _ (mayP a s v) (mayB a s v) (isV v.k a.lo) (isV v.k a.hi) (a.hi.less a.lo) w adr hE hS hI (fun w1 h => may_ok a ha s v hv w1 adr (hER w1 h) (by rw [hk]; rfl) hn h4)
          (fun w1 => isValue_any v.k a.lo ha.lo w1) (fun w1 => isValue_any v.k a.hi ha.hi w1) (fun w1 => lessOf_at a.hi a.lo ha.hi ha.lo _ rfl w1) (fun w1 => ?_) (fun h => by simp [h4 h]) (fun h => may_same a ha s v hv hi h)
        cases hh : a.has with
        | false =>
          have e : mayB a s v = false := by unfold mayB; rw [hh]; rfl
          rw [e]
          exact mayOf_hasnt a s v hh w1
        | true => exact mayOf_has a ha s v hv hh w1
end Go.Proofs.YthilhooomlhfpaaDoor
