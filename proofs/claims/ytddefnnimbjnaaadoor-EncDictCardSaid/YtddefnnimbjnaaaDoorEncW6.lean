/- The walks of the document's ManyError, ValuesError. -/
import Derived.Test.YtddefnnimbjnaaaDoorEncW5
import Derived.Test.YtddefnnimbjnaaaDoorIsVal
import Derived.Test.YtddefnnimbjnaaaDoorBitsW3
namespace Go.Proofs.YtddefnnimbjnaaaDoor
set_option linter.unusedVariables false
open Go Go.RowKit Go.ChangeShapes

theorem badAt_first (kind : Int) : ∀ (l : List Val) (i k : Nat) (x : Val), (∀ j y, j < k → l[j]? = some y → OkP kind y) → l[k]? = some x → ¬ OkP kind x → badAt kind l i = some (i + k)
  | [], _, k, x, _, h, _ => by simp at h
  | a :: l, i, 0, x, _, h, hn => by
    simp at h
    subst h
    unfold badAt
    rw [if_neg (fun h' => hn ((okB_iff kind a).1 h'))]; rfl
  | a :: l, i, k + 1, x, hP, h, hn => by
    unfold badAt
    rw [if_pos ((okB_iff kind a).2 (hP 0 a (by omega) rfl)), badAt_first kind l (i + 1) k x (fun j y hj hy => hP (j + 1) y (by omega) (by simpa using hy)) (by simpa using h) hn]
    congr 1; omega
theorem manyErr_vals {kind : Int} {l : List Val} (h : manyErr kind (l.length : Nat) ≠ .nil) : valsErr kind l = manyErr kind (l.length : Nat) := by
  unfold manyErr valsErr at *
  split
  · rfl
  · rw [if_neg (by assumption)] at h
    split at h
    · rw [if_pos (by omega), if_pos (by assumption)]
    · exact absurd rfl h
theorem manyErr_ok {kind : Int} {n : Int} (h : manyErr kind n = .nil) : 1 ≤ kind ∧ kind ≤ 5 ∧ 0 ≤ n ∧ n ≤ 20000 := by
  unfold manyErr at h
  split at h
  · cases h
  · split at h
    · cases h
    · omega
theorem manyErr_nil {kind : Int} {l : List Val} (h : manyErr kind (l.length : Nat) = .nil) : valsErr kind l = match badAt kind l 0 with | none => .nil | some i => .fault 4 (i : Nat) := by
  obtain ⟨h1, h2, h3, h4⟩ := manyErr_ok h
  unfold valsErr
  rw [if_neg (by omega), if_neg (by omega)]
  cases badAt kind l 0 <;> rfl

def zF : Obj := .cells #[.int .i64 0, .int .i64 0] 38
theorem zF_at {w w1 : World} (hb1 : Below (w.alloc zF).heap.size (w.alloc zF) w1) : w1.heap[w.heap.size]? = some (.cells #[.int .i64 0, .int .i64 0] 38 (0, 0)) :=
  (hb1.block _ (by simp)).trans (heap_alloc_new _ _)
/-- the end: the answer stored into the result's variable -/
theorem zF_end {fn : Func} {rs : Array ResultVar} (hr : fn.results = rs) (hrs : rs = #[.cell 4 38]) {w w1 : World} {c p : Int} (hb1 : Below (w.alloc zF).heap.size (w.alloc zF) w1) (T : Array Value) (hT : T.getD 4 undef = .pointer (some ⟨w.heap.size, 0, none⟩)) :
    bodyPost Tryd.prog fn (fun e w' => e = .returned (faultV c p) ∧ Below w.heap.size w w') Exit.ret { tmps := T, defers := [] } (w1.setRow w.heap.size #[.int .i64 c, .int .i64 p]) := by
  have hg : w1.heap[w.heap.size]? = some (.cells #[.int .i64 0, .int .i64 0] 38 (0, 0)) := (hb1.block _ (by simp)).trans (heap_alloc_new _ _)
  refine bodyPost_ret (v := faultV c p) (results_cell_row (hr.trans hrs) _ _ w.heap.size 38 _ (0, 0) _ hT (setRow_heap _ _ _ _ _ _ hg) Tryd.underlying38 rfl (by kernel_rfl)) rfl ⟨rfl, ?_⟩
  exact below_setRow (((Below.refl w.heap.size w).alloc (Nat.le_refl _) _).trans (hb1.mono (by simp))) (Nat.le_refl _) _

set_option maxRecDepth 100000 in
set_option maxHeartbeats 1000000 in
theorem manyError_any (kind n : Int) (w : World) :
    Calls Tryd.prog 41 #[.int .i64 kind, .int .i64 n] w fun e w' => e = .returned (faultV (manyErr kind n).code (manyErr kind n).at') ∧ Below w.heap.size w w' := by
  unfold manyErr
  by_cases h : kind < 1 ∨ 5 < kind
  · rw [if_pos h]
    show Calls _ _ _ _ fun e w' => e = .returned (faultV 4 (-1)) ∧ _
    rcases h with h1 | h5
    · go_enter Tryd.func41, Tryd.ntmps41
      go_wp2_with fail
      refine (bare_any _ _).mono ?_; rintro e w1 ⟨rfl, hb1⟩
      go_wp2_with (refine wpList_store_row rfl rfl 38 _ _ rfl _ rfl _ #[.int .i64 4, .int .i64 (-1)] rfl _ (zF_at hb1) (by kernel_rfl) rfl (by simp [Value.oneCell']) ?_)
      (refine zF_end rfl rfl hb1 _ ?_; rfl)
    · have h1 : ¬ kind < 1 := by omega
      go_enter Tryd.func41, Tryd.ntmps41
      go_wp2_with fail
      refine (bare_any _ _).mono ?_; rintro e w1 ⟨rfl, hb1⟩
      go_wp2_with (refine wpList_store_row rfl rfl 38 _ _ rfl _ rfl _ #[.int .i64 4, .int .i64 (-1)] rfl _ (zF_at hb1) (by kernel_rfl) rfl (by simp [Value.oneCell']) ?_)
      (refine zF_end rfl rfl hb1 _ ?_; rfl)
  · rw [if_neg h]
    have h1 : 1 ≤ kind := by omega
    have h5 : kind ≤ 5 := by omega
    clear h
    by_cases h' : n < 0 ∨ 20000 < n
    · rw [if_pos h']
      show Calls _ _ _ _ fun e w' => e = .returned (faultV 2 (-1)) ∧ _
      rcases h' with h2 | h3
      · go_enter Tryd.func41, Tryd.ntmps41
        go_wp2_with fail
        refine (bare_any _ _).mono ?_; rintro e w1 ⟨rfl, hb1⟩
        go_wp2_with (refine wpList_store_row rfl rfl 38 _ _ rfl _ rfl _ #[.int .i64 2, .int .i64 (-1)] rfl _ (zF_at hb1) (by kernel_rfl) rfl (by simp [Value.oneCell']) ?_)
        (refine zF_end rfl rfl hb1 _ ?_; rfl)
      · have h2 : ¬ n < 0 := by omega
        go_enter Tryd.func41, Tryd.ntmps41
        go_wp2_with fail
        refine (bare_any _ _).mono ?_; rintro e w1 ⟨rfl, hb1⟩
        go_wp2_with (refine wpList_store_row rfl rfl 38 _ _ rfl _ rfl _ #[.int .i64 2, .int .i64 (-1)] rfl _ (zF_at hb1) (by kernel_rfl) rfl (by simp [Value.oneCell']) ?_)
        (refine zF_end rfl rfl hb1 _ ?_; rfl)
    · rw [if_neg h']
      show Calls _ _ _ _ fun e w' => e = .returned (faultV 0 (-1)) ∧ _
      have h2 : 0 ≤ n := by omega
      have h3 : n ≤ 20000 := by omega
      clear h'
      go_enter Tryd.func41, Tryd.ntmps41
      go_wp2_with fail
      refine (fine_any _).mono ?_; rintro e w1 ⟨rfl, hb1⟩
      go_wp2_with (refine wpList_store_row rfl rfl 38 _ _ rfl _ rfl _ #[.int .i64 0, .int .i64 (-1)] rfl _ (zF_at hb1) (by kernel_rfl) rfl (by simp [Value.oneCell']) ?_)
      (refine zF_end rfl rfl hb1 _ ?_; rfl)

/-- a fault so far, k values seen -/
def FaultSo (kind : Int) (l : List Val) (k : Nat) (c p : Int) : Prop :=
  (c = 0 ∧ p = -1 ∧ manyErr kind (l.length : Nat) = .nil ∧ ∀ j y, j < k → l[j]? = some y → OkP kind y) ∨ ((c == 0) = false ∧ c = (valsErr kind l).code ∧ p = (valsErr kind l).at')

set_option maxRecDepth 100000 in
set_option maxHeartbeats 2000000 in
theorem valuesError_any (kind : Int) (v : Value) (l : List Val) (w : World) (hI : IsVals w v l) (hl : l.length ≤ maxLen) (hO : ∀ x ∈ l, x.Ok) :
    Calls Tryd.prog 23 #[.int .i64 kind, v] w fun e w' => e = .returned (faultV (valsErr kind l).code (valsErr kind l).at') ∧ Below w.heap.size w w' := by
  obtain ⟨iv, hiv, hzv, hsv⟩ := val_info
  have hsz : (Tryd.prog.info? 33).map (·.size) = some (valA ⟨0, 0, ⟨#[]⟩⟩).size := by rw [hiv]; simp [hsv, valA]
  obtain ⟨jf, hjf, hzf⟩ : ∃ j, Tryd.prog.info? 38 = some j ∧ j.zero = some (.agg #[.int .i64 0, .int .i64 0]) := by
    have h : (Tryd.prog.info? 38).map (·.zero) = some (some (.agg #[.int .i64 0, .int .i64 0])) := by kernel_rfl
    cases hh : Tryd.prog.info? 38 with
    | none => rw [hh] at h; cases h
    | some j => rw [hh] at h; exact ⟨j, rfl, by simpa using h⟩
  have hM := manyError_any kind (l.length : Nat)
  have H0 : FaultSo kind l 0 (manyErr kind (l.length : Nat)).code (manyErr kind (l.length : Nat)).at' := by
    by_cases hm : manyErr kind (l.length : Nat) = .nil
    · rw [hm]; exact .inl ⟨rfl, rfl, hm, fun j y hj => by omega⟩
    · refine .inr ⟨?_, by rw [manyErr_vals hm], by rw [manyErr_vals hm]⟩
      unfold manyErr at hm ⊢
      split
      · rfl
      · split
        · rfl
        · rw [if_neg (by assumption), if_neg (by assumption)] at hm; exact absurd rfl hm
  generalize (manyErr kind (l.length : Nat)).code = c0 at hM H0
  generalize (manyErr kind (l.length : Nat)).at' = p0 at hM H0
  unfold faultV at hM
  have HI := Lib.hid hI; have HO := Lib.hid hO; have HM := Lib.hid hM; have HH := Lib.hid H0
  unfold maxLen at hl
  obtain ⟨ad, cap, rfl⟩ := hI.form
  clear hI hO hM H0
  go_enter Tryd.func23, Tryd.ntmps23
  go_wp2_with fail
  refine (HM.out _).mono ?_; rintro e w1 ⟨rfl, hb1⟩
  have hb1' : Below (w.alloc zF).heap.size (w.alloc zF) w1 := hb1
  have Hb1 := Lib.hid hb1'
  clear hb1 hb1'
  go_wp2_with (first
    | (refine wpList_alloc_row rfl 38 rfl jf _ _ hjf hzf rfl ?_)
    | (refine wpList_store_new rfl rfl 38 _ _ rfl rfl _ #[.int .i64 c0, .int .i64 p0] rfl (by kernel_rfl) rfl (by simp [Value.oneCell']) ?_))
  have hw1s : w.heap.size + 1 ≤ w1.heap.size := by have := Hb1.out.size; simpa using this
  have Hcell := Lib.hid (heap_alloc_new w1 (.cells #[.int .i64 c0, .int .i64 p0] 38))
  have Hb2 := Lib.hid (Hb1.out.alloc Hb1.out.size (.cells #[.int .i64 c0, .int .i64 p0] 38))
  go_loopw [6] (fun i wr => ∃ (k : Nat) (c p : Int), k ≤ l.length ∧ i = .int .i64 (k : Nat) ∧ FaultSo kind l k c p ∧ wr.heap[w1.heap.size]? = some (.cells #[.int .i64 c, .int .i64 p] 38 (0, 0)) ∧ Below (w.alloc zF).heap.size (w.alloc zF) wr) (fun i _ => l.length - (intOf i).toNat)
  case atStart => exact ⟨0, c0, p0, Nat.zero_le _, rfl, HH.out, Hcell.out, Hb2.out⟩
  case round =>
    obtain ⟨k, c, p, hk, rfl, hf, hcl, hb⟩ := hrel
    have hbw : Below w.heap.size w wr := ((Below.refl w.heap.size w).alloc (Nat.le_refl _) _).trans (hb.mono (by simp))
    have q0 : wr.cell? ⟨w1.heap.size, 0, none⟩ = some (.int .i64 c) := by rw [Lib.cell_of_heap hcl]; rfl
    have hwrs : w1.heap.size < wr.heap.size := (Array.getElem?_eq_some_iff.1 hcl).1
    have Hcl := Lib.hid hcl; have Hb := Lib.hid hb; have Hbw := Lib.hid hbw
    clear hcl hb hbw
    by_cases hgo : k < l.length ∧ c = 0
    · obtain ⟨hlt, rfl⟩ := hgo
      obtain ⟨rfl, hme, hok⟩ : p = -1 ∧ manyErr kind (l.length : Nat) = .nil ∧ ∀ j y, j < k → l[j]? = some y → OkP kind y := by
        rcases hf with ⟨_, h1, h2, h3⟩ | ⟨h1, _⟩
        · exact ⟨h1, h2, h3⟩
        · cases h1
      obtain ⟨m1, m5, _, _⟩ := manyErr_ok hme
      have Hme := Lib.hid hme; have Hok := Lib.hid hok
      clear hf hme hok
      obtain ⟨b0, off, rfl, hq, hlt0, hc⟩ := (HI.out.below Hbw.out (Nat.le_refl _)).at (by omega)
      have hx := List.getElem?_eq_getElem hlt
      have hcx := hc k l[k] hx
      have hox := HO.out l[k] (List.getElem_mem hlt)
      generalize l[k] = x at *
      have HX := Lib.hid hx
      have Hcx := Lib.hid hcx.cells
      have hin : (k : Int) < (l.length : Int) := by omega
      clear hq hc hcx hx
      by_cases hpx : OkP kind x
      · have hV := Lib.hid (fun w2 => isValue_yes kind x hox w2 hpx m1 m5)
        have Hnext := Lib.hid (show FaultSo kind l (k + 1) 0 (-1) from .inl ⟨rfl, rfl, Hme.out, fun j y hj hy => by
          by_cases h : j = k
          · subst h; rw [HX.out] at hy; obtain rfl := Option.some.inj hy; exact hpx
          · exact Hok.out j y (by omega) hy⟩)
        clear hpx hox
        go_wp2_with (refine wpList_load_cells rfl 33 _ rfl b0 (off + k * 3) rfl (valA x) _ Hcx.out Tryd.underlying33 rfl hsz ?_)
        refine (hV.out _).mono ?_; rintro e w2 ⟨rfl, hb2⟩
        have Hb2' := Lib.hid hb2
        clear hb2
        go_wp2_with fail
        go_roundw
        case rel => exact ⟨k + 1, 0, -1, by omega, by go_num, Hnext.out, (Hb2'.out.block _ hwrs).trans Hcl.out, Hb.out.trans (Hb2'.out.mono Hb.out.size)⟩
        case measure => simp [intOf]; omega
      · have hV := Lib.hid (fun w2 => isValue_no kind x hox w2 hpx m1 m5)
        have hve : valsErr kind l = .fault 4 (k : Nat) := by
          rw [manyErr_nil Hme.out, badAt_first kind l 0 k x Hok.out HX.out hpx, Nat.zero_add]
        have Hnext := Lib.hid (show FaultSo kind l (k + 1) 4 (k : Nat) from .inr ⟨rfl, by rw [hve]; rfl, by rw [hve]; rfl⟩)
        clear hpx hox hve
        go_wp2_with (refine wpList_load_cells rfl 33 _ rfl b0 (off + k * 3) rfl (valA x) _ Hcx.out Tryd.underlying33 rfl hsz ?_)
        refine (hV.out _).mono ?_; rintro e w2 ⟨rfl, hb2⟩
        have Hb2' := Lib.hid hb2
        have hcl2 := (Hb2'.out.block _ hwrs).trans Hcl.out
        have Hcl2 := Lib.hid hcl2
        clear hb2 hcl2
        go_wp2_with (refine wpList_store_row rfl rfl 38 _ _ rfl _ rfl _ #[.int .i64 4, .int .i64 (k : Nat)] rfl _ Hcl2.out (by kernel_rfl) rfl (by simp [Value.oneCell']) ?_)
        go_roundw
        case rel => exact ⟨k + 1, 4, (k : Nat), by omega, by go_num, Hnext.out, setRow_heap _ _ _ _ _ _ Hcl2.out, below_setRow (Hb.out.trans (Hb2'.out.mono Hb.out.size)) (by simpa using hw1s) _⟩
        case measure => simp [intOf]; omega
    · have hfin : c = (valsErr kind l).code ∧ p = (valsErr kind l).at' := by
        rcases hf with ⟨h1, h2, h3, h4⟩ | ⟨_, h2, h3⟩
        · have hkl : k = l.length := by
            rcases Nat.lt_or_ge k l.length with h | h
            · exact absurd ⟨h, h1⟩ hgo
            · omega
          have hb : badAt kind l 0 = none := (badAt_none kind l 0).2 fun x hx => by
            obtain ⟨j, hj, rfl⟩ := List.getElem_of_mem hx
            exact h4 j _ (by omega) (List.getElem?_eq_getElem hj)
          rw [manyErr_nil h3, hb]
          exact ⟨h1, h2⟩
        · exact ⟨h2, h3⟩
      have Hfin := Lib.hid hfin
      have hguard : (k < l.length ∧ (c == 0) = false) ∨ ¬ k < l.length := by
        by_cases h : k < l.length
        · exact .inl ⟨h, by simpa using fun hc => hgo ⟨h, hc⟩⟩
        · exact .inr h
      clear hf hgo hfin
      rcases hguard with ⟨hlt, hc0⟩ | hlt
      all_goals
        go_wp2_with (first
          | (refine wpList_load_row rfl 38 _ rfl w1.heap.size rfl 38 #[.int .i64 c, .int .i64 p] (0, 0) _ Hcl.out Tryd.underlying38 rfl (by kernel_rfl) ?_)
          | (refine wpList_store_row rfl rfl 38 _ _ rfl _ rfl _ #[.int .i64 c, .int .i64 p] rfl _ (zF_at Hb.out) (by kernel_rfl) rfl (by simp [Value.oneCell']) ?_))
        rw [← Hfin.out.1, ← Hfin.out.2]
        (refine zF_end rfl rfl Hb.out _ ?_; rfl)
end Go.Proofs.YtddefnnimbjnaaaDoor
