/- The walk of the statement EncReads. -/
import Derived.Test.YtddefnnimbjnaaaDoorRfBe
import Derived.Test.YtddefnnimbjnaaaDoorMRef
import Derived.Test.YtddefnnimbjnaaaDoorMErr
namespace Go.Proofs.YtddefnnimbjnaaaDoor
set_option linter.unusedVariables false
open Go Go.RowKit Go.ChangeShapes

theorem fault_info11 : ∃ j, Tryd.prog.info? 38 = some j ∧ j.zero = some (.agg #[.int .i64 0, .int .i64 0]) := by
  have h : (Tryd.prog.info? 38).map (·.zero) = some (some (.agg #[.int .i64 0, .int .i64 0])) := by kernel_rfl
  cases hh : Tryd.prog.info? 38 with
  | none => rw [hh] at h; cases h
  | some j => rw [hh] at h; exact ⟨j, rfl, by simpa using h⟩
theorem manyErr_pos11 {kind n : Int} (h : manyErr kind n ≠ .nil) : 0 < (manyErr kind n).code := by
  unfold manyErr at h ⊢
  split
  · decide
  · split
    · decide
    · rename_i h1 h2
      rw [if_neg h1, if_neg h2] at h
      exact absurd rfl h
theorem manyErr_nil11 {kind n : Int} (h : manyErr kind n = .nil) : 1 ≤ kind ∧ kind ≤ 5 ∧ 0 ≤ n ∧ n ≤ 20000 := by
  unfold manyErr at h
  split at h
  · cases h
  · split at h
    · cases h
    · omega

/-- what a reader tells of what was written -/
def Got11 (l : List Val) (e : Ending) (w' : World) : Prop := ∃ u, e = .returned (.tuple #[u, .nilIface]) ∧ IsVals w' u l
theorem Got11.of_rd {ev : Value} {B : Nat} {r : Option (List Val)} {l : List Val} {e : Ending} {w' : World} (h : RdRet ev B r e w') (hr : r = some l) : Got11 l e w' := by
  subst hr
  obtain ⟨u, he, ho⟩ := h
  exact ⟨u, he, IsVals.of_own ho⟩
theorem readDi_len {kind : Int} {s : List UInt8} {n : Nat} {l : List Val} (h : readDi kind s n = some l) (hn : n ≤ 20000) : l.length ≤ 20000 := by
  unfold readDi at h
  split at h
  · cases h
  · split at h
    · cases h
    · split at h
      · cases h
      · split at h
        · cases h
        · split at h
          · cases h
          · rename_i ps k hr
            split at h
            · obtain rfl := Option.some.inj h
              rw [List.length_map, readR_len2 _ _ _ _ _ _ rfl hr]; exact hn
            · cases h

set_option maxRecDepth 100000 in
set_option maxHeartbeats 2000000 in
theorem encReads_early (kind code : Int) (s : ByteArray) (n : Int) (w : World) (h : 1000 < s.size ∨ 300 < n ∧ n ≤ 20000) (hs : s.size ≤ maxLen) :
    Calls Tryd.prog 14 #[.int .i64 kind, .int .i64 code, .string s, .int .i64 n] w fun e w' => e = .returned (.bool true) ∧ Below w.heap.size w w' := by
  unfold maxLen at hs
  by_cases h1000 : 1000 < s.size
  · have hi : (1000 : Int) < (s.size : Int) := by omega
    clear h h1000
    go_enter Tryd.func14, Tryd.ntmps14
    go_wp2_with fail
    refine (four_any _).mono ?_; rintro e w1 ⟨rfl, hb1⟩
    go_wp2_with fail
    go_ret
    exact ⟨rfl, hb1⟩
  · have hi : (s.size : Int) ≤ 1000 := by omega
    have h3 : 300 < n ∧ n ≤ 20000 := h.resolve_left h1000
    obtain ⟨h3, h4⟩ := h3
    clear h h1000
    go_enter Tryd.func14, Tryd.ntmps14
    go_wp2_with fail
    refine (four_any _).mono ?_; rintro e w1 ⟨rfl, hb1⟩
    go_wp2_with fail
    go_ret
    exact ⟨rfl, hb1⟩

set_option maxRecDepth 100000 in
set_option maxHeartbeats 2000000 in
theorem encReads_many (kind code : Int) (s : ByteArray) (n : Int) (w : World) (adr : Nat → Addr) (hE : ErrEnv w adr) (hs : s.size ≤ 1000) (hn : n ≤ 300 ∨ 20000 < n) (hm : manyErr kind n ≠ .nil) :
    Calls Tryd.prog 14 #[.int .i64 kind, .int .i64 code, .string s, .int .i64 n] w fun e w' => e = .returned (.bool true) ∧ Below w.heap.size w w' := by
  obtain ⟨jf, hjf, hzf⟩ := fault_info11
  have HE := Lib.hid hE
  have hM := fun w1 => show Calls Tryd.prog 41 #[.int .i64 kind, .int .i64 n] w1 fun e w' => e = .returned (.agg #[.int .i64 (manyErr kind n).code, .int .i64 (manyErr kind n).at']) ∧ Below w1.heap.size w1 w' from manyError_any kind n w1
  have HM := Lib.hid hM
  have HR := Lib.hid (fun w1 (h1 : ErrsAt w1 adr [2, 4]) => readBest_err kind code n s w1 adr h1 (by
    by_cases h : kind < 1
    · exact .inl h
    · by_cases h' : 5 < kind
      · exact .inr (.inl h')
      · unfold manyErr at hm
        rw [if_neg (by omega)] at hm
        by_cases h2 : n < 0 ∨ 20000 < n
        · exact .inr (.inr h2)
        · rw [if_neg h2] at hm; exact absurd rfl hm))
  have HFd := Lib.hid (fun (w1 : World) (x : Value) h1 h2 => show Calls Tryd.prog 24 #[x, .agg #[.int .i64 (manyErr kind n).code, .int .i64 (manyErr kind n).at']] w1 fun r w' => r = .returned (.bool true) ∧ Below w1.heap.size w1 w' from (faulted_any (w := w1) (adr := adr) (e := manyErr kind n) (v := x) _ _ h1 h2).mono fun r w' ⟨h1, h2⟩ => ⟨h1.trans (ret_of (by simp)), h2⟩)
  have hc := manyErr_pos11 hm
  have Hc := Lib.hid hc
  generalize (manyErr kind n).code = c at *
  generalize (manyErr kind n).at' = p at *
  have hi : (s.size : Int) ≤ 1000 := by omega
  clear hE hM hm hc
  by_cases h3 : n ≤ 300
  focus have hq : True := trivial
  rotate_left
  focus have hq : 20000 < n := by omega
  rotate_left
  all_goals
    clear hn
    go_enter Tryd.func14, Tryd.ntmps14
    go_wp2_with fail
    refine (four_any _).mono ?_; rintro e w1 ⟨rfl, hb1⟩
    go_wp2_with fail
    refine (HM.out w1).mono ?_; rintro e w2 ⟨rfl, hb2⟩
    have hb2 := below_trans hb1 hb2
    clear hb1
    go_wp2_with (first
      | (refine wpList_alloc_row rfl 38 rfl jf _ _ hjf hzf rfl ?_)
      | (refine wpList_store_new rfl rfl 38 _ _ rfl rfl _ #[.int .i64 c, .int .i64 p] rfl (by kernel_rfl) rfl (by simp [Value.oneCell']) ?_))
    have hb3 : Below w.heap.size w (w2.alloc (.cells #[.int .i64 c, .int .i64 p] 38)) := hb2.alloc hb2.size _
    have hcl := heap_alloc_new w2 (.cells #[.int .i64 c, .int .i64 p] 38)
    generalize hpb : w2.heap.size = pb at *
    generalize w2.alloc (.cells #[.int .i64 c, .int .i64 p] 38) = w3 at *
    have Hcl := Lib.hid hcl
    clear hb2 hpb hcl
    refine (HR.out w3 ((HE.out.below hb3).errs.sub rfl)).mono ?_; rintro e w4 ⟨⟨x, rfl, hx⟩, hw4⟩
    subst hw4
    have q0 := (show w4.cell? ⟨pb, 0, none⟩ = some (.int .i64 c) by rw [Lib.cell_of_heap Hcl.out]; rfl)
    have Hx := Lib.hid hx
    have hcp := Hc.out
    clear hx
    go_wp2_with (refine wpList_load_row rfl 38 _ rfl pb rfl 38 #[.int .i64 c, .int .i64 p] (0, 0) _ Hcl.out Tryd.underlying38 rfl (by kernel_rfl) ?_)
    refine (HFd.out w4 x (HE.out.below hb3) Hx.out).mono ?_; rintro e w6 ⟨rfl, hb6⟩
    go_wp2_with fail
    go_ret
    exact ⟨ret_of (by simp), below_trans hb3 hb6⟩

set_option maxRecDepth 100000 in
set_option maxHeartbeats 2000000 in
theorem encReads_bad (kind code : Int) (s : ByteArray) (n : Int) (w : World) (adr : Nat → Addr) (hE : ErrEnv w adr) (hs : s.size ≤ 1000) (hn : n ≤ 300) (hm : manyErr kind n = .nil) (ec : Nat) (h1 : 1 ≤ ec) (h8 : ec ≤ 8)
    (hR : ∀ w1, ErrEnv w1 adr → Calls Tryd.prog 40 #[.int .i64 kind, .int .i64 code, .string s, .int .i64 n] w1 fun e w' => e = .returned (.tuple #[.slice none 0 0, .iface 173 (.pointer (some (adr ec)))]) ∧ Below w1.heap.size w1 w')
    (hO : ∀ w1, Calls Tryd.prog 42 #[.int .i64 kind, .int .i64 code, .string s, .int .i64 n] w1 fun e w' => e = .returned (.tuple #[.slice none 0 0, .int .i64 (ec : Nat)]) ∧ Below w1.heap.size w1 w') :
    Calls Tryd.prog 14 #[.int .i64 kind, .int .i64 code, .string s, .int .i64 n] w fun e w' => e = .returned (.bool true) ∧ Below w.heap.size w w' := by
  obtain ⟨jf, hjf, hzf⟩ := fault_info11
  have HE := Lib.hid hE
  have hM := fun w1 => show Calls Tryd.prog 41 #[.int .i64 kind, .int .i64 n] w1 fun e w' => e = .returned (.agg #[.int .i64 0, .int .i64 (manyErr kind n).at']) ∧ Below w1.heap.size w1 w' from by
    have h := manyError_any kind n w1
    rw [show (manyErr kind n).code = 0 by rw [hm]; rfl] at h
    exact h
  have HM := Lib.hid hM
  generalize (manyErr kind n).at' = p at *
  have HCd := Lib.hid (fun (w1 : World) (h : ErrEnv w1 adr) => show Calls Tryd.prog 27 #[.iface 173 (.pointer (some (adr ec))), .int .i64 (ec : Nat)] w1 fun r w' => r = .returned (.bool true) ∧ Below w1.heap.size w1 w' from
    (coded_any (w := w1) (adr := adr) (e := .sent ec) (v := .iface 173 (.pointer (some (adr ec)))) (ec : Nat) h ⟨h1, h8, rfl⟩).mono fun r w' ⟨h1, h2⟩ => ⟨h1.trans (ret_of (by simp [GErr.code, GErr.at'])), h2⟩)
  have HR := Lib.hid hR; have HO := Lib.hid hO
  have hi : (s.size : Int) ≤ 1000 := by omega
  have hec : (0 : Int) < (ec : Int) := by omega
  clear hE hM hm hR hO
  go_enter Tryd.func14, Tryd.ntmps14
  go_wp2_with fail
  refine (four_any _).mono ?_; rintro e w1 ⟨rfl, hb1⟩
  go_wp2_with fail
  refine (HM.out w1).mono ?_; rintro e w2 ⟨rfl, hb2⟩
  have hb2 := below_trans hb1 hb2
  clear hb1
  go_wp2_with (first
    | (refine wpList_alloc_row rfl 38 rfl jf _ _ hjf hzf rfl ?_)
    | (refine wpList_store_new rfl rfl 38 _ _ rfl rfl _ #[.int .i64 0, .int .i64 p] rfl (by kernel_rfl) rfl (by simp [Value.oneCell']) ?_))
  have hb3 : Below w.heap.size w (w2.alloc (.cells #[.int .i64 0, .int .i64 p] 38)) := hb2.alloc hb2.size _
  have hcl := heap_alloc_new w2 (.cells #[.int .i64 0, .int .i64 p] 38)
  generalize hpb : w2.heap.size = pb at *
  generalize w2.alloc (.cells #[.int .i64 0, .int .i64 p] 38) = w3 at *
  have Hcl := Lib.hid hcl
  clear hb2 hpb hcl
  refine (HR.out w3 (HE.out.below hb3)).mono ?_; rintro e w4 ⟨rfl, hb4⟩
  have hcl4 := (hb4.block pb (Array.getElem?_eq_some_iff.1 Hcl.out).1).trans Hcl.out
  have hb4 := below_trans hb3 hb4
  have q0 : w4.cell? ⟨pb, 0, none⟩ = some (.int .i64 0) := by rw [Lib.cell_of_heap hcl4]; rfl
  clear hb3 hcl4
  go_wp2_with fail
  refine (HO.out w4).mono ?_; rintro e w5 ⟨rfl, hb5⟩
  have hb5 := below_trans hb4 hb5
  clear hb4
  go_wp2_with fail
  refine (HCd.out w5 (HE.out.below hb5)).mono ?_; rintro e w6 ⟨rfl, hb6⟩
  go_wp2_with fail
  go_ret
  exact ⟨ret_of (by simp), below_trans hb5 hb6⟩

set_option maxRecDepth 100000 in
set_option maxHeartbeats 2000000 in
theorem encReads_good (kind code : Int) (s : ByteArray) (n : Int) (w : World) (adr : Nat → Addr) (hE : ErrEnv w adr) (hs : s.size ≤ 1000) (hn : n ≤ 300) (hm : manyErr kind n = .nil) (l : List Val) (hll : l.length ≤ 20000)
    (hR : ∀ w1, ErrEnv w1 adr → Calls Tryd.prog 40 #[.int .i64 kind, .int .i64 code, .string s, .int .i64 n] w1 fun e w' => Got11 l e w' ∧ Below w1.heap.size w1 w')
    (hO : ∀ w1, Calls Tryd.prog 42 #[.int .i64 kind, .int .i64 code, .string s, .int .i64 n] w1 fun e w' => (∃ u, e = .returned (.tuple #[u, .int .i64 0]) ∧ IsVals w' u l) ∧ Below w1.heap.size w1 w') :
    Calls Tryd.prog 14 #[.int .i64 kind, .int .i64 code, .string s, .int .i64 n] w fun e w' => e = .returned (.bool true) ∧ Below w.heap.size w w' := by
  obtain ⟨jf, hjf, hzf⟩ := fault_info11
  have HE := Lib.hid hE
  have hM := fun w1 => show Calls Tryd.prog 41 #[.int .i64 kind, .int .i64 n] w1 fun e w' => e = .returned (.agg #[.int .i64 0, .int .i64 (manyErr kind n).at']) ∧ Below w1.heap.size w1 w' from by
    have h := manyError_any kind n w1
    rw [show (manyErr kind n).code = 0 by rw [hm]; rfl] at h
    exact h
  have HM := Lib.hid hM
  generalize (manyErr kind n).at' = p at *
  have hss : sameB l l = true := (sameB_iff l l).2 rfl
  have HSv := Lib.hid (fun x y w1 (h : IsVals w1 x l) (h2 : IsVals w1 y l) => show Calls Tryd.prog 19 #[x, y] w1 fun e w' => e = .returned (.bool true) ∧ Below w1.heap.size w1 w' from by
    have h' := sameValues_any x y l l w1 h h2 (by unfold maxLen; omega) (by unfold maxLen; omega)
    rwa [hss] at h')
  have HR := Lib.hid hR; have HO := Lib.hid hO
  have hi : (s.size : Int) ≤ 1000 := by omega
  clear hE hM hm hR hO hss
  go_enter Tryd.func14, Tryd.ntmps14
  go_wp2_with fail
  refine (four_any _).mono ?_; rintro e w1 ⟨rfl, hb1⟩
  go_wp2_with fail
  refine (HM.out w1).mono ?_; rintro e w2 ⟨rfl, hb2⟩
  have hb2 := below_trans hb1 hb2
  clear hb1
  go_wp2_with (first
    | (refine wpList_alloc_row rfl 38 rfl jf _ _ hjf hzf rfl ?_)
    | (refine wpList_store_new rfl rfl 38 _ _ rfl rfl _ #[.int .i64 0, .int .i64 p] rfl (by kernel_rfl) rfl (by simp [Value.oneCell']) ?_))
  have hb3 : Below w.heap.size w (w2.alloc (.cells #[.int .i64 0, .int .i64 p] 38)) := hb2.alloc hb2.size _
  have hcl := heap_alloc_new w2 (.cells #[.int .i64 0, .int .i64 p] 38)
  generalize hpb : w2.heap.size = pb at *
  generalize w2.alloc (.cells #[.int .i64 0, .int .i64 p] 38) = w3 at *
  have Hcl := Lib.hid hcl
  clear hb2 hpb hcl
  refine (HR.out w3 (HE.out.below hb3)).mono ?_; rintro e w4 ⟨⟨x, rfl, hx⟩, hb4⟩
  have hcl4 := (hb4.block pb (Array.getElem?_eq_some_iff.1 Hcl.out).1).trans Hcl.out
  have hb4 := below_trans hb3 hb4
  have Hx := Lib.hid hx
  have q0 : w4.cell? ⟨pb, 0, none⟩ = some (.int .i64 0) := by rw [Lib.cell_of_heap hcl4]; rfl
  clear hb3 hcl4 hx
  go_wp2_with fail
  refine (HO.out w4).mono ?_; rintro e w5 ⟨⟨y, rfl, hy⟩, hb5⟩
  have Hx5 := Lib.hid (Hx.out.below hb5 (Nat.le_refl _)); have Hy := Lib.hid hy
  have hb5 := below_trans hb4 hb5
  clear hb4 hy
  go_wp2_with fail
  refine (HSv.out x y w5 Hx5.out Hy.out).mono ?_; rintro e w6 ⟨rfl, hb6⟩
  go_wp2_with fail
  go_ret
  exact ⟨ret_of (by simp), below_trans hb5 hb6⟩

theorem encReads_law (kind : Int) (_k0 : -9223372036854775808 ≤ kind) (_k1 : kind < 9223372036854775808) (code : Int) (_c0 : -9223372036854775808 ≤ code) (_c1 : code < 9223372036854775808) (s : ByteArray) (hs : s.size ≤ maxLen) (n : Int) (_n0 : -9223372036854775808 ≤ n) (_n1 : n < 9223372036854775808) (w : World)
    (hL : laidMetH Tryd.prog fullLaid w) :
    Calls Tryd.prog 14 #[.int .i64 kind, .int .i64 code, .string s, .int .i64 n] w fun e w' => e = .returned (.bool true) ∧ Below w.heap.size w w' := by
  obtain ⟨adr, hE⟩ := env_of_laid hL
  by_cases he : 1000 < s.size ∨ 300 < n ∧ n ≤ 20000
  · exact encReads_early kind code s n w he hs
  · by_cases hm : manyErr kind n = .nil
    · obtain ⟨h1, h5, hn0, hn2⟩ := manyErr_nil11 hm
      have hn : n ≤ 300 := by omega
      have hs1 : s.size ≤ 1000 := by omega
      obtain ⟨m, rfl⟩ : ∃ m : Nat, n = (m : Int) := ⟨n.toNat, by omega⟩
      have fin : ∀ (r : Option (List Val)), (∀ l, r = some l → l.length ≤ 20000) →
          (∀ w1, ErrEnv w1 adr → Calls Tryd.prog 40 #[.int .i64 kind, .int .i64 code, .string s, .int .i64 (m : Int)] w1 fun e w' => RdRet (.iface 173 (.pointer (some (adr 1)))) w1.heap.size r e w' ∧ Below w1.heap.size w1 w') →
          (∀ w1, Calls Tryd.prog 42 #[.int .i64 kind, .int .i64 code, .string s, .int .i64 (m : Int)] w1 fun e w' => BfRet w1.heap.size r e w' ∧ Below w1.heap.size w1 w') →
          Calls Tryd.prog 14 #[.int .i64 kind, .int .i64 code, .string s, .int .i64 (m : Int)] w fun e w' => e = .returned (.bool true) ∧ Below w.heap.size w w' := by
        intro r hr hR hO
        cases r with
        | none => exact encReads_bad kind code s m w adr hE hs1 hn hm 1 (by decide) (by decide) hR hO
        | some l =>
          refine encReads_good kind code s m w adr hE hs1 hn hm l (hr l rfl) (fun w1 h => (hR w1 h).mono fun e w' ⟨g1, g2⟩ => ⟨Got11.of_rd g1 rfl, g2⟩) (fun w1 => (hO w1).mono fun e w' ⟨g1, g2⟩ => ⟨?_, g2⟩)
          obtain ⟨u, g3, g4⟩ := g1
          exact ⟨u, g3, IsVals.of_own g4⟩
      have hc : ∀ w1, ErrEnv w1 adr → w1.cell? ⟨1, 0, none⟩ = some (.iface 173 (.pointer (some (adr 1)))) := fun w1 h => h.cell 1 (by decide) (by decide)
      by_cases c0 : code = 0
      · subst c0
        exact fin (readP kind s.data.toList m) (fun l hl => by have := (readP_inv h1 h5 hl).2.1; omega)
          (fun w1 h => readBest_0 kind s m _ _ w1 h1 h5 (by omega) (readPlain_any kind s m _ _ w1 h1 h5 (by omega) (by omega) (hc w1 h)))
          (fun w1 => readBestOf_0 kind s m _ w1 (readPlainOf_any kind s m w1 h1 h5 (by omega) (by omega)))
      by_cases c1 : code = 1
      · subst c1
        exact fin (readDi kind s.data.toList m) (fun l hl => readDi_len hl (by omega))
          (fun w1 h => readBest_1 kind s m _ _ w1 h1 h5 (by omega) (readDict_any kind s m _ _ w1 h1 h5 (by omega) (by omega) (hc w1 h)))
          (fun w1 => readBestOf_1 kind s m _ w1 (readDictOf_any kind s m w1 h1 h5 (by omega) (by omega)))
      by_cases c2 : code = 2 ∧ (kind = 2 ∨ kind = 3)
      · obtain ⟨rfl, hk⟩ := c2
        exact fin (readD kind s.data.toList m) (fun l hl => by have := (readD_inv hk hl).2.1; omega)
          (fun w1 h => readBest_2 kind hk s m _ _ w1 (by omega) (readDelta_any kind hk s m _ _ w1 adr (h.errs.sub rfl) (by omega) (by omega) (hc w1 h)))
          (fun w1 => readBestOf_2 kind hk s m _ w1 (readDeltaOf_any kind hk s m w1 (by omega) (by omega)))
      by_cases c3 : code = 3 ∧ kind = 4
      · obtain ⟨rfl, rfl⟩ := c3
        exact fin ((readX s.data.toList m).map textsV) (fun l hl => by
            cases hx : readX s.data.toList m with
            | none => rw [hx] at hl; cases hl
            | some L =>
              rw [hx] at hl
              obtain rfl := Option.some.inj hl
              have := (readX_inv hx).2.1
              unfold textsV
              rw [List.length_map]; omega)
          (fun w1 h => readBest_3 s m _ _ w1 (by omega) (by omega) (hc w1 h))
          (fun w1 => readBestOf_3 s m w1 (by omega) (by omega))
      exact encReads_bad kind code s m w adr hE hs1 hn hm 3 (by decide) (by decide)
        (fun w1 h => readBest_shape kind code s m _ w1 h1 h5 (by omega) (h.cell 3 (by decide) (by decide)) c0 c1 c2 c3)
        (fun w1 => readBestOf_shape kind code s m w1 c0 c1 c2 c3)
    · exact encReads_many kind code s n w adr hE (by omega) (by omega) hm
end Go.Proofs.YtddefnnimbjnaaaDoor
