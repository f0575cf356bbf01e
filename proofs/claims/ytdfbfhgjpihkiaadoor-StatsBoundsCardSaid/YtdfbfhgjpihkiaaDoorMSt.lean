/- Merged texts: Stat1, Stat2. -/
import Derived.Test.YtdfbfhgjpihkiaaDoorMRef
import Derived.Test.YtdfbfhgjpihkiaaDoorMEnc
import Derived.Test.YtdfbfhgjpihkiaaDoorMErr
import Derived.Test.YtdfbfhgjpihkiaaDoorMRow
import Derived.BigRegion

/- What is known of values, in plain Lean; arguments of that kind, opened; the equality of two. -/
namespace Go.Proofs.YtdfbfhgjpihkiaaDoor
set_option linter.unusedVariables false
open Go Go.RowKit Go.ChangeShapes Go.WideShapes Go.ChangeAt

/-- no value -/
def zv : Val := ⟨0, 0, ⟨#[]⟩⟩
/-- stats -/
structure St where
  e : Int
  n : Int
  has : Bool
  lo : Val
  hi : Val
def St.none : St := ⟨0, 0, false, zv, zv⟩
def stA (s : St) : Array Value := #[.int .i64 s.e, .int .i64 s.n, .bool s.has, .int .i64 s.lo.k, .int .i64 s.lo.n, .string s.lo.s, .int .i64 s.hi.k, .int .i64 s.hi.n, .string s.hi.s]
theorem stA_one (s : St) : (stA s).all (·.oneCell') = true := by simp [stA, Value.oneCell']
structure St.Ok (s : St) : Prop where
  e0 : -9223372036854775808 ≤ s.e
  e1 : s.e < 9223372036854775808
  n0 : -9223372036854775808 ≤ s.n
  n1 : s.n < 9223372036854775808
  lo : s.lo.Ok
  hi : s.hi.Ok

/-- a struct's field, read -/
theorem field_of {H : Type} {enc : TypeId × Value → H} {P : Program} {W : World} {base n : Nat} {sp : Nat → Bool} {held : Bool} {fs : Array Field} {cs : List Value} {xs : List (DataW H × List MemPlace)}
    (hq : ∀ (i : Nat) (f : Field), fs[i]? = some f → DataW.trod enc P W base sp held n f.type ((cs.drop f.offset).take (P.cellsOf f.type)) = xs[i]?)
    (i : Nat) (f : Field) (hf : fs[i]? = some f) (T o k : Nat) (hT : f.type = T) (ho : f.offset = o) (hk : P.cellsOf T = k) : DataW.trod enc P W base sp held n T ((cs.drop o).take k) = xs[i]? := by
  subst hT ho hk
  exact hq i f hf
theorem cells_int1 : Tryd.prog.cellsOf 3 = 1 := by kernel_rfl
theorem cells_bool1 : Tryd.prog.cellsOf 4 = 1 := by kernel_rfl
/-- the same stats? -/
def stEq (a b : St) : Bool := decide (a.e = b.e) && (decide (a.n = b.n) && ((a.has == b.has) && (valEq a.lo b.lo && valEq a.hi b.hi)))
theorem stEq_self (a : St) : stEq a a = true := by
  unfold stEq valEq
  simp

theorem st_ifs (x y : St) {α : Type} (p q : α) : (if x.e = y.e then if x.n = y.n then if x.has = y.has then if x.lo.k = y.lo.k then if x.lo.n = y.lo.n then if x.lo.s.toList = y.lo.s.toList then if x.hi.k = y.hi.k then if x.hi.n = y.hi.n then if x.hi.s.toList = y.hi.s.toList then p else q else q else q else q else q else q else q else q else q) = if stEq x y = true then p else q := by
  rw [val_ifs x.hi y.hi, val_ifs x.lo y.lo]
  unfold stEq
  by_cases h1 : x.e = y.e <;> by_cases h2 : x.n = y.n <;> by_cases h3 : x.has = y.has <;> cases valEq x.lo y.lo <;> cases valEq x.hi y.hi <;> simp [h1, h2, h3]
theorem eql_st (x y : St) (w : World) : (binOp .eql 33 (.agg (stA x)) (.agg (stA y))).run Tryd.prog w = .ok (.bool (stEq x y)) w := by
  have hm : Tryd.prog.stoodInHeld 33 = false := by kernel_rfl
  unfold stA
  simp [go_sem]
  rw [st_ifs]
  cases stEq x y <;> rfl
theorem neq_st (x y : St) (w : World) : (binOp .neq 33 (.agg (stA x)) (.agg (stA y))).run Tryd.prog w = .ok (.bool (!stEq x y)) w := by
  have hm : Tryd.prog.stoodInHeld 33 = false := by kernel_rfl
  unfold stA
  simp [go_sem]
  rw [st_ifs]
  cases stEq x y <;> rfl

/-- two together; none: the kinds part -/
def mergeSt (a b : St) : Option St :=
  if a.has = true ∧ b.has = true ∧ a.lo.k ≠ b.lo.k then .none
  else some ⟨a.e + b.e, a.n + b.n, a.has || b.has,
    if a.has then (if b.has && b.lo.less a.lo then b.lo else a.lo) else if b.has then b.lo else zv,
    if a.has then (if b.has && a.hi.less b.hi then b.hi else a.hi) else if b.has then b.hi else zv⟩
end Go.Proofs.YtdfbfhgjpihkiaaDoor

/- The walks of the statement's statsOf and of stats.Merge. -/
namespace Go.Proofs.YtdfbfhgjpihkiaaDoor
set_option linter.unusedVariables false
open Go Go.RowKit Go.ChangeShapes

theorem less_at (x y : Val) (hx : x.Ok) (hy : y.Ok) (t : Bool) (h : x.less y = t) (w : World) :
    Calls Tryd.prog 30 #[.agg #[.int .i64 x.k, .int .i64 x.n, .string x.s], .agg #[.int .i64 y.k, .int .i64 y.n, .string y.s]] w fun e w' => e = .returned (.bool t) ∧ Below w.heap.size w w' := by
  subst h
  exact less_any x y hx hy w
theorem lessOf_at (x y : Val) (hx : x.Ok) (hy : y.Ok) (t : Bool) (h : x.less y = t) (w : World) :
    Calls Tryd.prog 33 #[.agg #[.int .i64 x.k, .int .i64 x.n, .string x.s], .agg #[.int .i64 y.k, .int .i64 y.n, .string y.s]] w fun e w' => e = .returned (.bool t) ∧ Below w.heap.size w w' := by
  subst h
  exact lessOf_any x y hx hy w

set_option maxRecDepth 100000 in
set_option maxHeartbeats 20000000 in
theorem merge_yy (a b : St) (ha : a.Ok) (hb : b.Ok) (a0 : 0 ≤ a.e) (a1 : a.e ≤ 1099511627776) (b0 : 0 ≤ b.e) (b1 : b.e ≤ 1099511627776) (c0 : 0 ≤ a.n) (c1 : a.n ≤ 1099511627776) (d0 : 0 ≤ b.n) (d1 : b.n ≤ 1099511627776) (h1 : a.has = true) (h2 : b.has = true) (hk : a.lo.k = b.lo.k) (w : World) :
    Calls Tryd.prog 13 #[.agg (stA a), .agg (stA b)] w fun e w' => e = .returned (.tuple #[.agg (stA ⟨a.e + b.e, a.n + b.n, true, if b.lo.less a.lo then b.lo else a.lo, if a.hi.less b.hi then b.hi else a.hi⟩), .nilIface]) ∧ Below w.heap.size w w' := by
  obtain ⟨ae, an, ah, al, aH⟩ := a
  obtain ⟨be, bn, bh, bl, bH⟩ := b
  simp only at h1 h2 a0 a1 b0 b1 c0 c1 d0 d1 hk
  subst h1 h2
  cases t1 : bl.less al <;> cases t2 : aH.less bH
  · have HL := Lib.hid (fun w1 => less_at bl al hb.lo ha.lo _ t1 w1)
    have HH := Lib.hid (fun w1 => less_at aH bH ha.hi hb.hi _ t2 w1)
    clear ha hb t1 t2
    unfold stA
    have hkk : (al.k != bl.k) = false := by simp [hk]
    clear hk
    go_enter Tryd.func13, Tryd.ntmps13
    go_wp2_with fail
    refine (HL.out _).mono ?_; rintro e w1 ⟨rfl, hb1⟩
    obtain ⟨rA, rB, rR, rO, hbw, hz⟩ := rows4 hb1
    clear hb1
    have cA := rowc rA; have cB := rowc rB; have cO := rowc rO; have fO := rowf rO; have RA := Lib.hid rA; have RB := Lib.hid rB; have RR := Lib.hid rR; have RO := Lib.hid rO; have Hbw := Lib.hid hbw
    clear rA rB rR rO hbw
    go_wp2_with fail
    refine (HH.out _).mono ?_; rintro e w3 ⟨rfl, hb3⟩
    have RA3 := Lib.hid (row_keep hb3 RA.out); have RB3 := Lib.hid (row_keep hb3 RB.out); have RR3 := Lib.hid (row_keep hb3 RR.out); have RO3 := Lib.hid (row_keep hb3 RO.out)
    have hbw3 := Lib.hid (Hbw.out.trans (hb3.mono Hbw.out.size)); have hz3 : w.heap.size + 3 < w3.heap.size := row_lt RO3.out
    clear hb3 cA cB cO fO
    have cA3 := rowc RA3.out; have cB3 := rowc RB3.out; have cO3 := rowc RO3.out; have fO3 := rowf RO3.out
    have RR4 := RR3; have hbw4 := hbw3
    go_wp2_with (refine wpList_store_part rfl 33 _ _ rfl (w.heap.size + 1 + 1) 0 _ 33 (stA ⟨ae + be, an + bn, true, al, aH⟩) rfl rfl RR4.out (by kernel_rfl) (stA_one _) (Nat.le_of_ble_eq_true rfl) #[.int .i64 (ae + be), .int .i64 (an + bn), .bool true, .int .i64 al.k, .int .i64 al.n, .string al.s, .int .i64 aH.k, .int .i64 aH.n, .string aH.s] rfl ?_; intro w5 rR5 hoth hbl hsz; have hbw5 := Lib.hid (hbw4.out.trans (hbl.mono (by omega))); have RR5 := Lib.hid rR5; clear hoth hbl hsz rR5)
    refine bodyPost_ret (v := .tuple #[.agg (stA ⟨ae + be, an + bn, true, al, aH⟩), .nilIface]) (results_row_tmp Tryd.results13 _ _ (w.heap.size + 1 + 1) 33 _ (0, 0) _ rfl RR5.out Tryd.underlying33 rfl (by kernel_rfl)) rfl ⟨rfl, hbw5.out⟩
  · have HL := Lib.hid (fun w1 => less_at bl al hb.lo ha.lo _ t1 w1)
    have HH := Lib.hid (fun w1 => less_at aH bH ha.hi hb.hi _ t2 w1)
    clear ha hb t1 t2
    unfold stA
    have hkk : (al.k != bl.k) = false := by simp [hk]
    clear hk
    go_enter Tryd.func13, Tryd.ntmps13
    go_wp2_with fail
    refine (HL.out _).mono ?_; rintro e w1 ⟨rfl, hb1⟩
    obtain ⟨rA, rB, rR, rO, hbw, hz⟩ := rows4 hb1
    clear hb1
    have cA := rowc rA; have cB := rowc rB; have cO := rowc rO; have fO := rowf rO; have RA := Lib.hid rA; have RB := Lib.hid rB; have RR := Lib.hid rR; have RO := Lib.hid rO; have Hbw := Lib.hid hbw
    clear rA rB rR rO hbw
    go_wp2_with fail
    refine (HH.out _).mono ?_; rintro e w3 ⟨rfl, hb3⟩
    have RA3 := Lib.hid (row_keep hb3 RA.out); have RB3 := Lib.hid (row_keep hb3 RB.out); have RR3 := Lib.hid (row_keep hb3 RR.out); have RO3 := Lib.hid (row_keep hb3 RO.out)
    have hbw3 := Lib.hid (Hbw.out.trans (hb3.mono Hbw.out.size)); have hz3 : w.heap.size + 3 < w3.heap.size := row_lt RO3.out
    clear hb3 cA cB cO fO
    have cA3 := rowc RA3.out; have cB3 := rowc RB3.out; have cO3 := rowc RO3.out; have fO3 := rowf RO3.out
    obtain ⟨q1, q2, q3, q4⟩ := set3_row (x := .int .i64 bH.k) (y := .int .i64 bH.n) (z := .string bH.s) 6 RO3.out (by simp)
    have RR4 := Lib.hid ((q2 _ (by omega)).trans RR3.out); have hbw4 := Lib.hid (hbw3.out.trans (q3.mono (by omega)))
    clear q1 q2 q3 q4
    go_wp2_with (refine wpList_store_part rfl 33 _ _ rfl (w.heap.size + 1 + 1) 0 _ 33 (stA ⟨ae + be, an + bn, true, al, bH⟩) rfl rfl RR4.out (by kernel_rfl) (stA_one _) (Nat.le_of_ble_eq_true rfl) #[.int .i64 (ae + be), .int .i64 (an + bn), .bool true, .int .i64 al.k, .int .i64 al.n, .string al.s, .int .i64 bH.k, .int .i64 bH.n, .string bH.s] rfl ?_; intro w5 rR5 hoth hbl hsz; have hbw5 := Lib.hid (hbw4.out.trans (hbl.mono (by omega))); have RR5 := Lib.hid rR5; clear hoth hbl hsz rR5)
    refine bodyPost_ret (v := .tuple #[.agg (stA ⟨ae + be, an + bn, true, al, bH⟩), .nilIface]) (results_row_tmp Tryd.results13 _ _ (w.heap.size + 1 + 1) 33 _ (0, 0) _ rfl RR5.out Tryd.underlying33 rfl (by kernel_rfl)) rfl ⟨rfl, hbw5.out⟩
  · have HL := Lib.hid (fun w1 => less_at bl al hb.lo ha.lo _ t1 w1)
    have HH := Lib.hid (fun w1 => less_at aH bH ha.hi hb.hi _ t2 w1)
    clear ha hb t1 t2
    unfold stA
    have hkk : (al.k != bl.k) = false := by simp [hk]
    clear hk
    go_enter Tryd.func13, Tryd.ntmps13
    go_wp2_with fail
    refine (HL.out _).mono ?_; rintro e w1 ⟨rfl, hb1⟩
    obtain ⟨rA, rB, rR, rO, hbw, hz⟩ := rows4 hb1
    clear hb1
    have cA := rowc rA; have cB := rowc rB; have cO := rowc rO; have fO := rowf rO; have RA := Lib.hid rA; have RB := Lib.hid rB; have RR := Lib.hid rR; have RO := Lib.hid rO; have Hbw := Lib.hid hbw
    clear rA rB rR rO hbw
    go_wp2_with fail
    refine (HH.out _).mono ?_; rintro e w3 ⟨rfl, hb3⟩
    obtain ⟨q1, q2, q3, q4⟩ := set3_row (x := .int .i64 bl.k) (y := .int .i64 bl.n) (z := .string bl.s) 3 RO.out (by simp)
    have RA3 := Lib.hid (row_keep hb3 ((q2 _ (by omega)).trans RA.out)); have RB3 := Lib.hid (row_keep hb3 ((q2 _ (by omega)).trans RB.out)); have RR3 := Lib.hid (row_keep hb3 ((q2 _ (by omega)).trans RR.out)); have RO3 : Hid (w3.heap[w.heap.size + 1 + 1 + 1]? = some (.cells #[.int .i64 (ae + be), .int .i64 (an + bn), .bool true, .int .i64 bl.k, .int .i64 bl.n, .string bl.s, .int .i64 aH.k, .int .i64 aH.n, .string aH.s] 33 (0, 0))) := Lib.hid (row_keep hb3 q1)
    have hbw3 := Lib.hid ((Hbw.out.trans (q3.mono (by omega))).trans (hb3.mono (by have := Hbw.out.size; rw [q4]; exact this))); have hz3 : w.heap.size + 3 < w3.heap.size := row_lt RO3.out
    clear q1 q2 q3 q4
    clear hb3 cA cB cO fO
    have cA3 := rowc RA3.out; have cB3 := rowc RB3.out; have cO3 := rowc RO3.out; have fO3 := rowf RO3.out
    have RR4 := RR3; have hbw4 := hbw3
    go_wp2_with (refine wpList_store_part rfl 33 _ _ rfl (w.heap.size + 1 + 1) 0 _ 33 (stA ⟨ae + be, an + bn, true, bl, aH⟩) rfl rfl RR4.out (by kernel_rfl) (stA_one _) (Nat.le_of_ble_eq_true rfl) #[.int .i64 (ae + be), .int .i64 (an + bn), .bool true, .int .i64 bl.k, .int .i64 bl.n, .string bl.s, .int .i64 aH.k, .int .i64 aH.n, .string aH.s] rfl ?_; intro w5 rR5 hoth hbl hsz; have hbw5 := Lib.hid (hbw4.out.trans (hbl.mono (by omega))); have RR5 := Lib.hid rR5; clear hoth hbl hsz rR5)
    refine bodyPost_ret (v := .tuple #[.agg (stA ⟨ae + be, an + bn, true, bl, aH⟩), .nilIface]) (results_row_tmp Tryd.results13 _ _ (w.heap.size + 1 + 1) 33 _ (0, 0) _ rfl RR5.out Tryd.underlying33 rfl (by kernel_rfl)) rfl ⟨rfl, hbw5.out⟩
  · have HL := Lib.hid (fun w1 => less_at bl al hb.lo ha.lo _ t1 w1)
    have HH := Lib.hid (fun w1 => less_at aH bH ha.hi hb.hi _ t2 w1)
    clear ha hb t1 t2
    unfold stA
    have hkk : (al.k != bl.k) = false := by simp [hk]
    clear hk
    go_enter Tryd.func13, Tryd.ntmps13
    go_wp2_with fail
    refine (HL.out _).mono ?_; rintro e w1 ⟨rfl, hb1⟩
    obtain ⟨rA, rB, rR, rO, hbw, hz⟩ := rows4 hb1
    clear hb1
    have cA := rowc rA; have cB := rowc rB; have cO := rowc rO; have fO := rowf rO; have RA := Lib.hid rA; have RB := Lib.hid rB; have RR := Lib.hid rR; have RO := Lib.hid rO; have Hbw := Lib.hid hbw
    clear rA rB rR rO hbw
    go_wp2_with fail
    refine (HH.out _).mono ?_; rintro e w3 ⟨rfl, hb3⟩
    obtain ⟨q1, q2, q3, q4⟩ := set3_row (x := .int .i64 bl.k) (y := .int .i64 bl.n) (z := .string bl.s) 3 RO.out (by simp)
    have RA3 := Lib.hid (row_keep hb3 ((q2 _ (by omega)).trans RA.out)); have RB3 := Lib.hid (row_keep hb3 ((q2 _ (by omega)).trans RB.out)); have RR3 := Lib.hid (row_keep hb3 ((q2 _ (by omega)).trans RR.out)); have RO3 : Hid (w3.heap[w.heap.size + 1 + 1 + 1]? = some (.cells #[.int .i64 (ae + be), .int .i64 (an + bn), .bool true, .int .i64 bl.k, .int .i64 bl.n, .string bl.s, .int .i64 aH.k, .int .i64 aH.n, .string aH.s] 33 (0, 0))) := Lib.hid (row_keep hb3 q1)
    have hbw3 := Lib.hid ((Hbw.out.trans (q3.mono (by omega))).trans (hb3.mono (by have := Hbw.out.size; rw [q4]; exact this))); have hz3 : w.heap.size + 3 < w3.heap.size := row_lt RO3.out
    clear q1 q2 q3 q4
    clear hb3 cA cB cO fO
    have cA3 := rowc RA3.out; have cB3 := rowc RB3.out; have cO3 := rowc RO3.out; have fO3 := rowf RO3.out
    obtain ⟨q1, q2, q3, q4⟩ := set3_row (x := .int .i64 bH.k) (y := .int .i64 bH.n) (z := .string bH.s) 6 RO3.out (by simp)
    have RR4 := Lib.hid ((q2 _ (by omega)).trans RR3.out); have hbw4 := Lib.hid (hbw3.out.trans (q3.mono (by omega)))
    clear q1 q2 q3 q4
    go_wp2_with (refine wpList_store_part rfl 33 _ _ rfl (w.heap.size + 1 + 1) 0 _ 33 (stA ⟨ae + be, an + bn, true, bl, bH⟩) rfl rfl RR4.out (by kernel_rfl) (stA_one _) (Nat.le_of_ble_eq_true rfl) #[.int .i64 (ae + be), .int .i64 (an + bn), .bool true, .int .i64 bl.k, .int .i64 bl.n, .string bl.s, .int .i64 bH.k, .int .i64 bH.n, .string bH.s] rfl ?_; intro w5 rR5 hoth hbl hsz; have hbw5 := Lib.hid (hbw4.out.trans (hbl.mono (by omega))); have RR5 := Lib.hid rR5; clear hoth hbl hsz rR5)
    refine bodyPost_ret (v := .tuple #[.agg (stA ⟨ae + be, an + bn, true, bl, bH⟩), .nilIface]) (results_row_tmp Tryd.results13 _ _ (w.heap.size + 1 + 1) 33 _ (0, 0) _ rfl RR5.out Tryd.underlying33 rfl (by kernel_rfl)) rfl ⟨rfl, hbw5.out⟩

set_option maxRecDepth 100000 in
set_option maxHeartbeats 20000000 in
theorem merge_yn (a b : St) (ha : a.Ok) (hb : b.Ok) (a0 : 0 ≤ a.e) (a1 : a.e ≤ 1099511627776) (b0 : 0 ≤ b.e) (b1 : b.e ≤ 1099511627776) (c0 : 0 ≤ a.n) (c1 : a.n ≤ 1099511627776) (d0 : 0 ≤ b.n) (d1 : b.n ≤ 1099511627776) (h1 : a.has = true) (h2 : b.has = false) (w : World) :
    Calls Tryd.prog 13 #[.agg (stA a), .agg (stA b)] w fun e w' => e = .returned (.tuple #[.agg (stA ⟨a.e + b.e, a.n + b.n, true, a.lo, a.hi⟩), .nilIface]) ∧ Below w.heap.size w w' := by
  obtain ⟨ae, an, ah, al, aH⟩ := a
  obtain ⟨be, bn, bh, bl, bH⟩ := b
  simp only at h1 h2 a0 a1 b0 b1 c0 c1 d0 d1
  subst h1 h2
  clear ha hb
  unfold stA
  go_enter Tryd.func13, Tryd.ntmps13
  go_wp2_with fail
  exact bodyPost_ret (v := .tuple #[.agg #[.int .i64 (ae + be), .int .i64 (an + bn), .bool true, .int .i64 al.k, .int .i64 al.n, .string al.s, .int .i64 aH.k, .int .i64 aH.n, .string aH.s], .nilIface]) (by simp [results, Tryd.results13, go_sem]) rfl ⟨rfl, by repeat (first | exact Below.refl _ _ | refine Below.alloc ?_ (by simp <;> omega) _ | refine Below.drew ?_ | refine Below.setCell ?_ (by simp <;> omega) _)⟩

set_option maxRecDepth 100000 in
set_option maxHeartbeats 20000000 in
theorem merge_ny (a b : St) (ha : a.Ok) (hb : b.Ok) (a0 : 0 ≤ a.e) (a1 : a.e ≤ 1099511627776) (b0 : 0 ≤ b.e) (b1 : b.e ≤ 1099511627776) (c0 : 0 ≤ a.n) (c1 : a.n ≤ 1099511627776) (d0 : 0 ≤ b.n) (d1 : b.n ≤ 1099511627776) (h1 : a.has = false) (h2 : b.has = true) (w : World) :
    Calls Tryd.prog 13 #[.agg (stA a), .agg (stA b)] w fun e w' => e = .returned (.tuple #[.agg (stA ⟨a.e + b.e, a.n + b.n, true, b.lo, b.hi⟩), .nilIface]) ∧ Below w.heap.size w w' := by
  obtain ⟨ae, an, ah, al, aH⟩ := a
  obtain ⟨be, bn, bh, bl, bH⟩ := b
  simp only at h1 h2 a0 a1 b0 b1 c0 c1 d0 d1
  subst h1 h2
  clear ha hb
  unfold stA
  go_enter Tryd.func13, Tryd.ntmps13
  go_wp2_with fail
  go_region
  go_wp2_with fail
  exact bodyPost_ret (v := .tuple #[.agg #[.int .i64 (ae + be), .int .i64 (an + bn), .bool true, .int .i64 bl.k, .int .i64 bl.n, .string bl.s, .int .i64 bH.k, .int .i64 bH.n, .string bH.s], .nilIface]) (by simp [results, Tryd.results13, go_sem]) rfl ⟨rfl, by repeat (first | exact Below.refl _ _ | refine Below.alloc ?_ (by simp <;> omega) _ | refine Below.drew ?_ | refine Below.setCell ?_ (by simp <;> omega) _)⟩

set_option maxRecDepth 100000 in
set_option maxHeartbeats 20000000 in
theorem merge_nn (a b : St) (ha : a.Ok) (hb : b.Ok) (a0 : 0 ≤ a.e) (a1 : a.e ≤ 1099511627776) (b0 : 0 ≤ b.e) (b1 : b.e ≤ 1099511627776) (c0 : 0 ≤ a.n) (c1 : a.n ≤ 1099511627776) (d0 : 0 ≤ b.n) (d1 : b.n ≤ 1099511627776) (h1 : a.has = false) (h2 : b.has = false) (w : World) :
    Calls Tryd.prog 13 #[.agg (stA a), .agg (stA b)] w fun e w' => e = .returned (.tuple #[.agg (stA ⟨a.e + b.e, a.n + b.n, false, zv, zv⟩), .nilIface]) ∧ Below w.heap.size w w' := by
  obtain ⟨ae, an, ah, al, aH⟩ := a
  obtain ⟨be, bn, bh, bl, bH⟩ := b
  simp only at h1 h2 a0 a1 b0 b1 c0 c1 d0 d1
  subst h1 h2
  clear ha hb
  unfold stA
  go_enter Tryd.func13, Tryd.ntmps13
  go_wp2_with fail
  go_region
  go_wp2_with fail
  exact bodyPost_ret (v := .tuple #[.agg #[.int .i64 (ae + be), .int .i64 (an + bn), .bool false, .int .i64 0, .int .i64 0, .string ⟨#[]⟩, .int .i64 0, .int .i64 0, .string ⟨#[]⟩], .nilIface]) (by simp [results, Tryd.results13, go_sem]) rfl ⟨rfl, by repeat (first | exact Below.refl _ _ | refine Below.alloc ?_ (by simp <;> omega) _ | refine Below.drew ?_ | refine Below.setCell ?_ (by simp <;> omega) _)⟩

set_option maxRecDepth 100000 in
set_option maxHeartbeats 2000000 in
theorem merge_kind (a b : St) (h1 : a.has = true) (h2 : b.has = true) (hk : ¬ a.lo.k = b.lo.k) (w : World) (adr : Nat → Addr) (hE : ErrsAt w adr [4]) :
    Calls Tryd.prog 13 #[.agg (stA a), .agg (stA b)] w fun e w' => e = .returned (.tuple #[.agg (stA St.none), .iface 167 (.pointer (some (adr 4)))]) ∧ Below w.heap.size w w' := by
  obtain ⟨ae, an, ah, al, aH⟩ := a
  obtain ⟨be, bn, bh, bl, bH⟩ := b
  simp only at h1 h2 hk
  subst h1 h2
  have e4 := hE.cell 4 (by decide)
  have hg : gErr 4 < w.heap.size := block_lt_of_cell e4
  unfold gErr at e4 hg
  have hz0 : 0 < w.heap.size := by omega
  have hkk : (al.k != bl.k) = true := by simpa using hk
  clear hk hE
  unfold stA
  go_enter Tryd.func13, Tryd.ntmps13
  go_wp2_with fail
  go_region
  go_wp2_with fail
  exact bodyPost_ret (v := .tuple #[.agg (stA St.none), .iface 167 (.pointer (some (adr 4)))]) (by simp [results, Tryd.results13, go_sem, stA, St.none, zv]) rfl ⟨rfl, by repeat (first | exact Below.refl _ _ | refine Below.alloc ?_ (by simp <;> omega) _ | refine Below.drew ?_ | refine Below.setCell ?_ (by simp <;> omega) _)⟩
end Go.Proofs.YtdfbfhgjpihkiaaDoor
