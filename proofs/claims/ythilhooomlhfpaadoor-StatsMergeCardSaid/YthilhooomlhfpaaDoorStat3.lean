/- The walks of the document's MergedOf. -/
import Derived.Test.YthilhooomlhfpaaDoorStat1
import Derived.Test.YthilhooomlhfpaaDoorEncW2
import Derived.Test.YthilhooomlhfpaaDoorErrsAt
import Derived.Test.YthilhooomlhfpaaDoorRow
import Derived.Test.YthilhooomlhfpaaDoorStat2
import Derived.BigRegion
namespace Go.Proofs.YthilhooomlhfpaaDoor
set_option linter.unusedVariables false
open Go Go.RowKit Go.ChangeShapes

set_option maxRecDepth 100000 in
set_option maxHeartbeats 20000000 in
theorem merged_yy (a b : St) (ha : a.Ok) (hb : b.Ok) (a0 : 0 ≤ a.e) (a1 : a.e ≤ 1099511627776) (b0 : 0 ≤ b.e) (b1 : b.e ≤ 1099511627776) (c0 : 0 ≤ a.n) (c1 : a.n ≤ 1099511627776) (d0 : 0 ≤ b.n) (d1 : b.n ≤ 1099511627776) (h1 : a.has = true) (h2 : b.has = true) (hk : a.lo.k = b.lo.k) (w : World) :
    Calls Tryd.prog 21 #[.agg (stA a), .agg (stA b)] w fun e w' => e = .returned (.tuple #[.agg (stA ⟨a.e + b.e, a.n + b.n, true, if b.lo.less a.lo then b.lo else a.lo, if a.hi.less b.hi then b.hi else a.hi⟩), .int .i64 0]) ∧ Below w.heap.size w w' := by
  obtain ⟨ae, an, ah, al, aH⟩ := a
  obtain ⟨be, bn, bh, bl, bH⟩ := b
  simp only at h1 h2 a0 a1 b0 b1 c0 c1 d0 d1 hk
  subst h1 h2
  cases t1 : bl.less al <;> cases t2 : aH.less bH
  · have HL := Lib.hid (fun w1 => lessOf_at bl al hb.lo ha.lo _ t1 w1)
    have HH := Lib.hid (fun w1 => lessOf_at aH bH ha.hi hb.hi _ t2 w1)
    clear ha hb t1 t2
    unfold stA
    have hkk : (al.k != bl.k) = false := by simp [hk]
    clear hk
    go_enter Tryd.func21, Tryd.ntmps21
    go_wp2_with fail
    refine (HL.out _).mono ?_; rintro e w1 ⟨rfl, hb1⟩
    obtain ⟨rA, rB, rR, rO, hbw, hz⟩ := rows4 hb1
    clear hb1
    have cA := rowc rA; have cB := rowc rB; have cO := rowc rO; have fO := rowf rO; have RA := Lib.hid rA; have RB := Lib.hid rB; have RR := Lib.hid rR; have RO := Lib.hid rO; have Hbw := Lib.hid hbw
    clear rA rB rR rO hbw
    go_wp2_with fail
    refine (HH.out _).mono ?_; rintro e w3 ⟨rfl, hb3⟩
    have RA3 := Lib.hid (row_keep hb3 RA.out); have RB3 := Lib.hid (row_keep hb3 RB.out); have RR3 := Lib.hid (row_keep hb3 RR.out); have RO3 := Lib.hid (row_keep hb3 RO.out)
    have hbw3 := Lib.hid (Hbw.out.trans (hb3.mono Hbw.out.size)); have hz3 : w.heap.size + 3 < w3.heap.size := row_lt RO3.out
    clear hb3 cA cB cO fO
    have cA3 := rowc RA3.out; have cB3 := rowc RB3.out; have cO3 := rowc RO3.out; have fO3 := rowf RO3.out
    have RR4 := RR3; have hbw4 := hbw3
    go_wp2_with (refine wpList_store_part rfl 46 _ _ rfl (w.heap.size + 1 + 1) 0 _ 46 (stA ⟨ae + be, an + bn, true, al, aH⟩) rfl rfl RR4.out (by kernel_rfl) (stA_one _) (Nat.le_of_ble_eq_true rfl) #[.int .i64 (ae + be), .int .i64 (an + bn), .bool true, .int .i64 al.k, .int .i64 al.n, .string al.s, .int .i64 aH.k, .int .i64 aH.n, .string aH.s] rfl ?_; intro w5 rR5 hoth hbl hsz; have hbw5 := Lib.hid (hbw4.out.trans (hbl.mono (by omega))); have RR5 := Lib.hid rR5; clear hoth hbl hsz rR5)
    refine bodyPost_ret (v := .tuple #[.agg (stA ⟨ae + be, an + bn, true, al, aH⟩), .int .i64 0]) (results_row_tmp Tryd.results21 _ _ (w.heap.size + 1 + 1) 46 _ (0, 0) _ rfl RR5.out Tryd.underlying46 rfl (by kernel_rfl)) rfl ⟨rfl, hbw5.out⟩
  · have HL := Lib.hid (fun w1 => lessOf_at bl al hb.lo ha.lo _ t1 w1)
    have HH := Lib.hid (fun w1 => lessOf_at aH bH ha.hi hb.hi _ t2 w1)
    clear ha hb t1 t2
    unfold stA
    have hkk : (al.k != bl.k) = false := by simp [hk]
    clear hk
    go_enter Tryd.func21, Tryd.ntmps21
    go_wp2_with fail
    refine (HL.out _).mono ?_; rintro e w1 ⟨rfl, hb1⟩
    obtain ⟨rA, rB, rR, rO, hbw, hz⟩ := rows4 hb1
    clear hb1
    have cA := rowc rA; have cB := rowc rB; have cO := rowc rO; have fO := rowf rO; have RA := Lib.hid rA; have RB := Lib.hid rB; have RR := Lib.hid rR; have RO := Lib.hid rO; have Hbw := Lib.hid hbw
    clear rA rB rR rO hbw
    go_wp2_with fail
    refine (HH.out _).mono ?_; rintro e w3 ⟨rfl, hb3⟩
    have RA3 := Lib.hid (row_keep hb3 RA.out); have RB3 := Lib.hid (row_keep hb3 RB.out); have RR3 := Lib.hid (row_keep hb3 RR.out); have RO3 := Lib.hid (row_keep hb3 RO.out)
    have hbw3 := Lib.hid (Hbw.out.trans (hb3.mono Hbw.out.size)); have hz3 : w.heap.size + 3 < w3.heap.size := row_lt RO3.out
    clear hb3 cA cB cO fO
    have cA3 := rowc RA3.out; have cB3 := rowc RB3.out; have cO3 := rowc RO3.out; have fO3 := rowf RO3.out
    obtain ⟨q1, q2, q3, q4⟩ := set3_row (x := .int .i64 bH.k) (y := .int .i64 bH.n) (z := .string bH.s) 6 RO3.out (by simp)
    have RR4 := Lib.hid ((q2 _ (by omega)).trans RR3.out); have hbw4 := Lib.hid (hbw3.out.trans (q3.mono (by omega)))
    clear q1 q2 q3 q4
    go_wp2_with (refine wpList_store_part rfl 46 _ _ rfl (w.heap.size + 1 + 1) 0 _ 46 (stA ⟨ae + be, an + bn, true, al, bH⟩) rfl rfl RR4.out (by kernel_rfl) (stA_one _) (Nat.le_of_ble_eq_true rfl) #[.int .i64 (ae + be), .int .i64 (an + bn), .bool true, .int .i64 al.k, .int .i64 al.n, .string al.s, .int .i64 bH.k, .int .i64 bH.n, .string bH.s] rfl ?_; intro w5 rR5 hoth hbl hsz; have hbw5 := Lib.hid (hbw4.out.trans (hbl.mono (by omega))); have RR5 := Lib.hid rR5; clear hoth hbl hsz rR5)
    refine bodyPost_ret (v := .tuple #[.agg (stA ⟨ae + be, an + bn, true, al, bH⟩), .int .i64 0]) (results_row_tmp Tryd.results21 _ _ (w.heap.size + 1 + 1) 46 _ (0, 0) _ rfl RR5.out Tryd.underlying46 rfl (by kernel_rfl)) rfl ⟨rfl, hbw5.out⟩
  · have HL := Lib.hid (fun w1 => lessOf_at bl al hb.lo ha.lo _ t1 w1)
    have HH := Lib.hid (fun w1 => lessOf_at aH bH ha.hi hb.hi _ t2 w1)
    clear ha hb t1 t2
    unfold stA
    have hkk : (al.k != bl.k) = false := by simp [hk]
    clear hk
    go_enter Tryd.func21, Tryd.ntmps21
    go_wp2_with fail
    refine (HL.out _).mono ?_; rintro e w1 ⟨rfl, hb1⟩
    obtain ⟨rA, rB, rR, rO, hbw, hz⟩ := rows4 hb1
    clear hb1
    have cA := rowc rA; have cB := rowc rB; have cO := rowc rO; have fO := rowf rO; have RA := Lib.hid rA; have RB := Lib.hid rB; have RR := Lib.hid rR; have RO := Lib.hid rO; have Hbw := Lib.hid hbw
    clear rA rB rR rO hbw
    go_wp2_with fail
    refine (HH.out _).mono ?_; rintro e w3 ⟨rfl, hb3⟩
    obtain ⟨q1, q2, q3, q4⟩ := set3_row (x := .int .i64 bl.k) (y := .int .i64 bl.n) (z := .string bl.s) 3 RO.out (by simp)
    have RA3 := Lib.hid (row_keep hb3 ((q2 _ (by omega)).trans RA.out)); have RB3 := Lib.hid (row_keep hb3 ((q2 _ (by omega)).trans RB.out)); have RR3 := Lib.hid (row_keep hb3 ((q2 _ (by omega)).trans RR.out)); have RO3 : Hid (w3.heap[w.heap.size + 1 + 1 + 1]? = some (.cells #[.int .i64 (ae + be), .int .i64 (an + bn), .bool true, .int .i64 bl.k, .int .i64 bl.n, .string bl.s, .int .i64 aH.k, .int .i64 aH.n, .string aH.s] 46 (0, 0))) := Lib.hid (row_keep hb3 q1)
    have hbw3 := Lib.hid ((Hbw.out.trans (q3.mono (by omega))).trans (hb3.mono (by have := Hbw.out.size; rw [q4]; exact this))); have hz3 : w.heap.size + 3 < w3.heap.size := row_lt RO3.out
    clear q1 q2 q3 q4
    clear hb3 cA cB cO fO
    have cA3 := rowc RA3.out; have cB3 := rowc RB3.out; have cO3 := rowc RO3.out; have fO3 := rowf RO3.out
    have RR4 := RR3; have hbw4 := hbw3
    go_wp2_with (refine wpList_store_part rfl 46 _ _ rfl (w.heap.size + 1 + 1) 0 _ 46 (stA ⟨ae + be, an + bn, true, bl, aH⟩) rfl rfl RR4.out (by kernel_rfl) (stA_one _) (Nat.le_of_ble_eq_true rfl) #[.int .i64 (ae + be), .int .i64 (an + bn), .bool true, .int .i64 bl.k, .int .i64 bl.n, .string bl.s, .int .i64 aH.k, .int .i64 aH.n, .string aH.s] rfl ?_; intro w5 rR5 hoth hbl hsz; have hbw5 := Lib.hid (hbw4.out.trans (hbl.mono (by omega))); have RR5 := Lib.hid rR5; clear hoth hbl hsz rR5)
    refine bodyPost_ret (v := .tuple #[.agg (stA ⟨ae + be, an + bn, true, bl, aH⟩), .int .i64 0]) (results_row_tmp Tryd.results21 _ _ (w.heap.size + 1 + 1) 46 _ (0, 0) _ rfl RR5.out Tryd.underlying46 rfl (by kernel_rfl)) rfl ⟨rfl, hbw5.out⟩
  · have HL := Lib.hid (fun w1 => lessOf_at bl al hb.lo ha.lo _ t1 w1)
    have HH := Lib.hid (fun w1 => lessOf_at aH bH ha.hi hb.hi _ t2 w1)
    clear ha hb t1 t2
    unfold stA
    have hkk : (al.k != bl.k) = false := by simp [hk]
    clear hk
    go_enter Tryd.func21, Tryd.ntmps21
    go_wp2_with fail
    refine (HL.out _).mono ?_; rintro e w1 ⟨rfl, hb1⟩
    obtain ⟨rA, rB, rR, rO, hbw, hz⟩ := rows4 hb1
    clear hb1
    have cA := rowc rA; have cB := rowc rB; have cO := rowc rO; have fO := rowf rO; have RA := Lib.hid rA; have RB := Lib.hid rB; have RR := Lib.hid rR; have RO := Lib.hid rO; have Hbw := Lib.hid hbw
    clear rA rB rR rO hbw
    go_wp2_with fail
    refine (HH.out _).mono ?_; rintro e w3 ⟨rfl, hb3⟩
    obtain ⟨q1, q2, q3, q4⟩ := set3_row (x := .int .i64 bl.k) (y := .int .i64 bl.n) (z := .string bl.s) 3 RO.out (by simp)
    have RA3 := Lib.hid (row_keep hb3 ((q2 _ (by omega)).trans RA.out)); have RB3 := Lib.hid (row_keep hb3 ((q2 _ (by omega)).trans RB.out)); have RR3 := Lib.hid (row_keep hb3 ((q2 _ (by omega)).trans RR.out)); have RO3 : Hid (w3.heap[w.heap.size + 1 + 1 + 1]? = some (.cells #[.int .i64 (ae + be), .int .i64 (an + bn), .bool true, .int .i64 bl.k, .int .i64 bl.n, .string bl.s, .int .i64 aH.k, .int .i64 aH.n, .string aH.s] 46 (0, 0))) := Lib.hid (row_keep hb3 q1)
    have hbw3 := Lib.hid ((Hbw.out.trans (q3.mono (by omega))).trans (hb3.mono (by have := Hbw.out.size; rw [q4]; exact this))); have hz3 : w.heap.size + 3 < w3.heap.size := row_lt RO3.out
    clear q1 q2 q3 q4
    clear hb3 cA cB cO fO
    have cA3 := rowc RA3.out; have cB3 := rowc RB3.out; have cO3 := rowc RO3.out; have fO3 := rowf RO3.out
    obtain ⟨q1, q2, q3, q4⟩ := set3_row (x := .int .i64 bH.k) (y := .int .i64 bH.n) (z := .string bH.s) 6 RO3.out (by simp)
    have RR4 := Lib.hid ((q2 _ (by omega)).trans RR3.out); have hbw4 := Lib.hid (hbw3.out.trans (q3.mono (by omega)))
    clear q1 q2 q3 q4
    go_wp2_with (refine wpList_store_part rfl 46 _ _ rfl (w.heap.size + 1 + 1) 0 _ 46 (stA ⟨ae + be, an + bn, true, bl, bH⟩) rfl rfl RR4.out (by kernel_rfl) (stA_one _) (Nat.le_of_ble_eq_true rfl) #[.int .i64 (ae + be), .int .i64 (an + bn), .bool true, .int .i64 bl.k, .int .i64 bl.n, .string bl.s, .int .i64 bH.k, .int .i64 bH.n, .string bH.s] rfl ?_; intro w5 rR5 hoth hbl hsz; have hbw5 := Lib.hid (hbw4.out.trans (hbl.mono (by omega))); have RR5 := Lib.hid rR5; clear hoth hbl hsz rR5)
    refine bodyPost_ret (v := .tuple #[.agg (stA ⟨ae + be, an + bn, true, bl, bH⟩), .int .i64 0]) (results_row_tmp Tryd.results21 _ _ (w.heap.size + 1 + 1) 46 _ (0, 0) _ rfl RR5.out Tryd.underlying46 rfl (by kernel_rfl)) rfl ⟨rfl, hbw5.out⟩

set_option maxRecDepth 100000 in
set_option maxHeartbeats 20000000 in
theorem merged_yn (a b : St) (ha : a.Ok) (hb : b.Ok) (a0 : 0 ≤ a.e) (a1 : a.e ≤ 1099511627776) (b0 : 0 ≤ b.e) (b1 : b.e ≤ 1099511627776) (c0 : 0 ≤ a.n) (c1 : a.n ≤ 1099511627776) (d0 : 0 ≤ b.n) (d1 : b.n ≤ 1099511627776) (h1 : a.has = true) (h2 : b.has = false) (w : World) :
    Calls Tryd.prog 21 #[.agg (stA a), .agg (stA b)] w fun e w' => e = .returned (.tuple #[.agg (stA ⟨a.e + b.e, a.n + b.n, true, a.lo, a.hi⟩), .int .i64 0]) ∧ Below w.heap.size w w' := by
  obtain ⟨ae, an, ah, al, aH⟩ := a
  obtain ⟨be, bn, bh, bl, bH⟩ := b
  simp only at h1 h2 a0 a1 b0 b1 c0 c1 d0 d1
  subst h1 h2
  clear ha hb
  unfold stA
  go_enter Tryd.func21, Tryd.ntmps21
  go_wp2_with fail
  exact bodyPost_ret (v := .tuple #[.agg #[.int .i64 (ae + be), .int .i64 (an + bn), .bool true, .int .i64 al.k, .int .i64 al.n, .string al.s, .int .i64 aH.k, .int .i64 aH.n, .string aH.s], .int .i64 0]) (by simp [results, Tryd.results21, go_sem]) rfl ⟨rfl, by repeat (first | exact Below.refl _ _ | refine Below.alloc ?_ (by simp <;> omega) _ | refine Below.drew ?_ | refine Below.setCell ?_ (by simp <;> omega) _)⟩

set_option maxRecDepth 100000 in
set_option maxHeartbeats 20000000 in
theorem merged_ny (a b : St) (ha : a.Ok) (hb : b.Ok) (a0 : 0 ≤ a.e) (a1 : a.e ≤ 1099511627776) (b0 : 0 ≤ b.e) (b1 : b.e ≤ 1099511627776) (c0 : 0 ≤ a.n) (c1 : a.n ≤ 1099511627776) (d0 : 0 ≤ b.n) (d1 : b.n ≤ 1099511627776) (h1 : a.has = false) (h2 : b.has = true) (w : World) :
    Calls Tryd.prog 21 #[.agg (stA a), .agg (stA b)] w fun e w' => e = .returned (.tuple #[.agg (stA ⟨a.e + b.e, a.n + b.n, true, b.lo, b.hi⟩), .int .i64 0]) ∧ Below w.heap.size w w' := by
  obtain ⟨ae, an, ah, al, aH⟩ := a
  obtain ⟨be, bn, bh, bl, bH⟩ := b
  simp only at h1 h2 a0 a1 b0 b1 c0 c1 d0 d1
  subst h1 h2
  clear ha hb
  unfold stA
  go_enter Tryd.func21, Tryd.ntmps21
  go_wp2_with fail
  exact bodyPost_ret (v := .tuple #[.agg #[.int .i64 (ae + be), .int .i64 (an + bn), .bool true, .int .i64 bl.k, .int .i64 bl.n, .string bl.s, .int .i64 bH.k, .int .i64 bH.n, .string bH.s], .int .i64 0]) (by simp [results, Tryd.results21, go_sem]) rfl ⟨rfl, by repeat (first | exact Below.refl _ _ | refine Below.alloc ?_ (by simp <;> omega) _ | refine Below.drew ?_ | refine Below.setCell ?_ (by simp <;> omega) _)⟩

set_option maxRecDepth 100000 in
set_option maxHeartbeats 20000000 in
theorem merged_nn (a b : St) (ha : a.Ok) (hb : b.Ok) (a0 : 0 ≤ a.e) (a1 : a.e ≤ 1099511627776) (b0 : 0 ≤ b.e) (b1 : b.e ≤ 1099511627776) (c0 : 0 ≤ a.n) (c1 : a.n ≤ 1099511627776) (d0 : 0 ≤ b.n) (d1 : b.n ≤ 1099511627776) (h1 : a.has = false) (h2 : b.has = false) (w : World) :
    Calls Tryd.prog 21 #[.agg (stA a), .agg (stA b)] w fun e w' => e = .returned (.tuple #[.agg (stA ⟨a.e + b.e, a.n + b.n, false, zv, zv⟩), .int .i64 0]) ∧ Below w.heap.size w w' := by
  obtain ⟨ae, an, ah, al, aH⟩ := a
  obtain ⟨be, bn, bh, bl, bH⟩ := b
  simp only at h1 h2 a0 a1 b0 b1 c0 c1 d0 d1
  subst h1 h2
  clear ha hb
  unfold stA
  go_enter Tryd.func21, Tryd.ntmps21
  go_wp2_with fail
  exact bodyPost_ret (v := .tuple #[.agg #[.int .i64 (ae + be), .int .i64 (an + bn), .bool false, .int .i64 0, .int .i64 0, .string ⟨#[]⟩, .int .i64 0, .int .i64 0, .string ⟨#[]⟩], .int .i64 0]) (by simp [results, Tryd.results21, go_sem]) rfl ⟨rfl, by repeat (first | exact Below.refl _ _ | refine Below.alloc ?_ (by simp <;> omega) _ | refine Below.drew ?_ | refine Below.setCell ?_ (by simp <;> omega) _)⟩

set_option maxRecDepth 100000 in
set_option maxHeartbeats 2000000 in
theorem merged_kind (a b : St) (h1 : a.has = true) (h2 : b.has = true) (hk : ¬ a.lo.k = b.lo.k) (a0 : 0 ≤ a.e) (a1 : a.e ≤ 1099511627776) (b0 : 0 ≤ b.e) (b1 : b.e ≤ 1099511627776) (c0 : 0 ≤ a.n) (c1 : a.n ≤ 1099511627776) (d0 : 0 ≤ b.n) (d1 : b.n ≤ 1099511627776) (w : World) :
    Calls Tryd.prog 21 #[.agg (stA a), .agg (stA b)] w fun e w' => e = .returned (.tuple #[.agg (stA St.none), .int .i64 4]) ∧ Below w.heap.size w w' := by
  obtain ⟨ae, an, ah, al, aH⟩ := a
  obtain ⟨be, bn, bh, bl, bH⟩ := b
  simp only at h1 h2 hk a0 a1 b0 b1 c0 c1 d0 d1
  subst h1 h2
  have hkk : (al.k != bl.k) = true := by simpa using hk
  clear hk
  unfold stA
  go_enter Tryd.func21, Tryd.ntmps21
  go_wp2_with fail
  exact bodyPost_ret (v := .tuple #[.agg (stA St.none), .int .i64 4]) (by simp [results, Tryd.results21, go_sem, stA, St.none, zv]) rfl ⟨rfl, by repeat (first | exact Below.refl _ _ | refine Below.alloc ?_ (by simp <;> omega) _ | refine Below.drew ?_ | refine Below.setCell ?_ (by simp <;> omega) _)⟩
end Go.Proofs.YthilhooomlhfpaaDoor
