/- The walks of the statements' values, small, and of SameValues; enc's Check and Plain where something is wrong. -/
import Derived.Test.YthilhooomlhfpaaDoorEnc2
import Derived.Lib.Hide
namespace Go.Proofs.YthilhooomlhfpaaDoor
set_option linter.unusedVariables false
open Go Go.RowKit Go.ChangeShapes

theorem flat_cell {w : World} {b : Nat} : ∀ (l : List Val) (off : Nat), (∀ (j : Nat) (x : Val), l[j]? = some x → ValAt w b (off + j * 3) x) → ∀ (j : Nat) (u : Value), (l.flatMap valCells)[j]? = some u → w.cell? ⟨b, off + j, none⟩ = some u
  | [], _, _, j, u, h => by simp at h
  | a :: l, off, h, j, u, hj => by
    obtain ⟨h0, h1, h2⟩ := h 0 a rfl
    rw [Nat.zero_mul, Nat.add_zero] at h0 h1 h2
    rw [List.flatMap_cons] at hj
    match j, hj with
    | 0, hj => simp [valCells] at hj; subst hj; exact h0
    | 1, hj => simp [valCells] at hj; subst hj; exact h1
    | 2, hj => simp [valCells] at hj; subst hj; exact h2
    | j + 3, hj =>
      rw [List.getElem?_append_right (by simp [valCells])] at hj
      have := flat_cell l (off + 3) (fun q x hx => by have := h (q + 1) x hx; rwa [show off + 3 + q * 3 = off + (q + 1) * 3 by omega]) j u (by simpa [valCells] using hj)
      rwa [show off + (j + 3) = off + 3 + j by omega]
theorem flat_one (l : List Val) : ∀ u ∈ l.flatMap valCells, u.oneCell' = true := by
  intro u hu
  obtain ⟨x, _, hx⟩ := List.mem_flatMap.1 hu
  simp only [valCells, List.mem_cons, List.not_mem_nil, or_false] at hx
  rcases hx with rfl | rfl | rfl <;> rfl

theorem val_infoB : ∃ i, Tryd.prog.info? 34 = some i ∧ i.zero = some (.agg #[.int .i64 0, .int .i64 0, .string ByteArray.empty]) ∧ i.size = 3 ∧ i.bytes = 32 := by
  have h : (Tryd.prog.info? 34).map (fun i => (i.zero, i.size, i.bytes)) = some (some (.agg #[.int .i64 0, .int .i64 0, .string ByteArray.empty]), 3, 32) := by kernel_rfl
  exact info_parts h |>.imp fun i h => ⟨h.1, h.2.1, h.2.2.1, h.2.2.2⟩


/-- the same values? -/
def valEq (x y : Val) : Bool := decide (x.k = y.k) && (decide (x.n = y.n) && decide (x.s = y.s))
theorem valEq_iff (x y : Val) : valEq x y = true ↔ x = y := by
  unfold valEq
  cases x; cases y
  simp
def sameB : List Val → List Val → Bool
  | [], [] => true
  | x :: a, y :: b => valEq x y && sameB a b
  | _, _ => false
theorem sameB_iff : ∀ a b, sameB a b = true ↔ a = b
  | [], [] => by simp [sameB]
  | [], _ :: _ => by simp [sameB]
  | _ :: _, [] => by simp [sameB]
  | x :: a, y :: b => by simp [sameB, valEq_iff, sameB_iff a b]

/-- two values held against each other -/
theorem val_ifs (x y : Val) {α : Type} (p q : α) : (if x.k = y.k then if x.n = y.n then if x.s.toList = y.s.toList then p else q else q else q) = if valEq x y = true then p else q := by
  by_cases h : valEq x y = true
  · rw [if_pos h]
    obtain rfl := (valEq_iff x y).1 h
    simp
  · rw [if_neg h]
    by_cases h1 : x.k = y.k
    · by_cases h2 : x.n = y.n
      · have h3 : ¬ x.s.toList = y.s.toList := fun h3 => h (by unfold valEq; simp [h1, h2, toList_inj h3])
        rw [if_pos h1, if_pos h2, if_neg h3]
      · rw [if_pos h1, if_neg h2]
    · rw [if_neg h1]
theorem neq_val (x y : Val) (w : World) : (binOp .neq 34 (.agg (valA x)) (.agg (valA y))).run Tryd.prog w = .ok (.bool (!valEq x y)) w := by
  have hm : Tryd.prog.stoodInHeld 34 = false := by kernel_rfl
  unfold valA
  simp [go_sem]
  rw [val_ifs]
  cases valEq x y <;> rfl
theorem eql_val (x y : Val) (w : World) : (binOp .eql 34 (.agg (valA x)) (.agg (valA y))).run Tryd.prog w = .ok (.bool (valEq x y)) w := by
  have hm : Tryd.prog.stoodInHeld 34 = false := by kernel_rfl
  unfold valA
  simp [go_sem]
  rw [val_ifs]
  cases valEq x y <;> rfl

theorem valEq_take {a b : List Val} {k : Nat} {x y : Val} (ht : a.take k = b.take k) (hx : a[k]? = some x) (hy : b[k]? = some y) (h : valEq x y = true) : a.take (k + 1) = b.take (k + 1) := by
  obtain rfl := (valEq_iff x y).1 h
  rw [List.take_add_one, List.take_add_one, ht, hx, hy]
theorem sameB_false {a b : List Val} {k : Nat} {x y : Val} (hx : a[k]? = some x) (hy : b[k]? = some y) (h : valEq x y = false) : sameB a b = false := by
  cases hs : sameB a b with
  | false => rfl
  | true =>
    obtain rfl := (sameB_iff a b).1 hs
    rw [hx] at hy
    obtain rfl := Option.some.inj hy
    rw [(valEq_iff x x).2 rfl] at h
    cases h
theorem loadV {w : World} {b o : Nat} {x : Val} (h : ValAt w b o x) (n : Nat) : (loadVar 34 ⟨b, o, none⟩).run Tryd.prog (w.drewN n) = .ok (.agg (valA x)) (w.drewN n) := by
  obtain ⟨iv, hiv, hzv, hsv⟩ := val_info
  exact run_loadVar_cells (w.drewN n) b o 34 (valA x) _ h.cells Tryd.underlying34 rfl (by rw [hiv]; simp [hsv, valA])

/-- in a region that only reads: a struct loaded; two values held against each other -/
theorem wpQuiet_loadS {P : Program} {ops : Array Oper} {C : World → Prop} {Q : Act → Prop} {rest : List Oper} {a : Act} {o : Oper} (hg : o.guard = none) (ty : TypeId) (x : Operand) (ho : o.op = .load ty x)
    (ad : Addr) (hx : a.eval x = .pointer (some ad)) (v : Value) (h1 : ∀ w, C w → (loadVar ty ad).run P w = .ok v w) (h : wpQuiet P ops C Q rest (a.put o.dst v)) : wpQuiet P ops C Q (o :: rest) a := by
  unfold wpQuiet
  rw [if_pos (by simp [Region.wanted, hg])]
  refine ⟨v, fun w hw => ?_, h⟩
  unfold Oper.quietAt
  simp [execOp, ho, hx, Instr.loadAt, Instr.sureAddr, h1 w hw, Oper.quietUpon, Result.andThen]
theorem wpQuiet_binS {P : Program} {ops : Array Oper} {C : World → Prop} {Q : Act → Prop} {rest : List Oper} {a : Act} {o : Oper} (hg : o.guard = none) (b : BinOp) (t t' : TypeId) (x y : Operand) (ho : o.op = .binOp b t x y t')
    (u v r : Value) (hx : a.eval x = u) (hy : a.eval y = v) (hgd : ∀ w, (eqGuard b t x y u v).run P w = .ok () w) (h1 : ∀ w, (binOp b t u v).run P w = .ok r w) (h : wpQuiet P ops C Q rest (a.put o.dst r)) : wpQuiet P ops C Q (o :: rest) a := by
  unfold wpQuiet
  rw [if_pos (by simp [Region.wanted, hg])]
  refine ⟨r, fun w hw => ?_, h⟩
  unfold Oper.quietAt
  simp [execOp, ho, hx, hy, hgd w, h1 w, Oper.quietUpon, Sem.run_bind, Result.andThen]

theorem val_guard (op : BinOp) (x y : Operand) (u v : Val) (w : World) : (eqGuard op 34 x y (.agg (valA u)) (.agg (valA v))).run Tryd.prog w = .ok () w := run_eqGuard_agg w op _ x y _ _ (by kernel_rfl)

set_option maxRecDepth 100000 in
set_option maxHeartbeats 1000000 in
theorem sameValues_any (v u : Value) (a b : List Val) (w : World) (hv : IsVals w v a) (hu : IsVals w u b) (h2 : a.length ≤ maxLen) (h3 : b.length ≤ maxLen) :
    Calls Tryd.prog 73 #[v, u] w fun e w' => e = .returned (.bool (sameB a b)) ∧ Below w.heap.size w w' := by
  have HV := Lib.hid hv; have HU := Lib.hid hu
  obtain ⟨ad, cap, rfl⟩ := hv.form
  obtain ⟨ad', cap', rfl⟩ := hu.form
  unfold maxLen at h2 h3
  clear hv hu
  by_cases hl : a.length = b.length
  · have Hl := Lib.hid hl
    have d1 : ((a.length : Int) != (b.length : Int)) = false := by rw [hl]; simp
    clear hl
    go_enter Tryd.func73, Tryd.ntmps73
    go_wp2_with fail
    go_loopw [5] (fun i wr => ∃ k : Nat, k ≤ a.length ∧ i = .int .i64 k ∧ a.take k = b.take k ∧ ∃ n, wr = w.drewN n) (fun i _ => a.length - (intOf i).toNat)
    case atStart => exact ⟨0, Nat.zero_le _, rfl, rfl, 0, rfl⟩
    case round =>
      obtain ⟨k, hk, rfl, ht, n, rfl⟩ := hrel
      have Ht := Lib.hid ht
      clear ht
      by_cases hlt : k < a.length
      · obtain ⟨b0, off, rfl, hq, hlt0, hc⟩ := HV.out.at (by omega)
        obtain ⟨b1, off1, rfl, hq1, hlt1, hc1⟩ := HU.out.at (by have := Hl.out; omega)
        have hx := List.getElem?_eq_getElem hlt
        have hy := List.getElem?_eq_getElem (show k < b.length by have := Hl.out; omega)
        have l1 := loadV (hc k _ hx)
        have l2 := loadV (hc1 k _ hy)
        have e1 := fun w => neq_val a[k] (b[k]'(by have := Hl.out; omega)) w
        generalize a[k] = x at *
        generalize b[k]'(by have := Hl.out; omega) = y at *
        have Hx := Lib.hid hx; have Hy := Lib.hid hy
        clear hc hc1 hq hq1 hx hy
        have hin : (k : Int) < (a.length : Int) := by omega
        have hin2 : (k : Int) < (b.length : Int) := by have := Hl.out; omega
        cases he : valEq x y
        · rw [he] at e1
          have Hf := Lib.hid (sameB_false Hx.out Hy.out he)
          clear he
          go_wp2_with fail
          refine wp_region_quiet_lit (by kernel_rfl) (by kernel_rfl) ?_
          repeat (go_big_quiet_step (fail))
          refine wpQuiet_loadS rfl _ _ rfl _ rfl _ (fun w ⟨q, hq⟩ => by rw [hq, World.drewN_drewN]; exact l1 _) ?_
          repeat (quiet_step (fail))
          refine wpQuiet_loadS rfl _ _ rfl _ rfl _ (fun w ⟨q, hq⟩ => by rw [hq, World.drewN_drewN]; exact l2 _) ?_
          refine wpQuiet_binS rfl .neq _ _ _ _ rfl (.agg (valA x)) (.agg (valA y)) _ rfl rfl (fun w => val_guard _ _ _ x y w) e1 ?_
          refine wpQuiet_nil ?_
          rintro w' ⟨q, hq⟩
          rw [World.drewN_drewN] at hq
          subst hq
          go_simp
          go_wp2_with fail
          go_ret
          exact ⟨ret_of (by rw [Hf.out]; rfl), below_drewN (Below.refl _ _) _⟩
        · rw [he] at e1
          have Htk := Lib.hid (valEq_take Ht.out Hx.out Hy.out he)
          clear he
          go_wp2_with fail
          refine wp_region_quiet_lit (by kernel_rfl) (by kernel_rfl) ?_
          repeat (go_big_quiet_step (fail))
          refine wpQuiet_loadS rfl _ _ rfl _ rfl _ (fun w ⟨q, hq⟩ => by rw [hq, World.drewN_drewN]; exact l1 _) ?_
          repeat (quiet_step (fail))
          refine wpQuiet_loadS rfl _ _ rfl _ rfl _ (fun w ⟨q, hq⟩ => by rw [hq, World.drewN_drewN]; exact l2 _) ?_
          refine wpQuiet_binS rfl .neq _ _ _ _ rfl (.agg (valA x)) (.agg (valA y)) _ rfl rfl (fun w => val_guard _ _ _ x y w) e1 ?_
          refine wpQuiet_nil ?_
          rintro w' ⟨q, hq⟩
          rw [World.drewN_drewN] at hq
          subst hq
          go_simp
          go_wp2_with fail
          go_roundw
          case rel => exact ⟨k + 1, by omega, by go_num, Htk.out, _, rfl⟩
          case measure => simp [intOf]; omega
      · have hkl : k = a.length := by omega
        have Hs := Lib.hid (show sameB a b = true by
          rw [sameB_iff]
          have := Ht.out
          rwa [hkl, List.take_length, Hl.out, List.take_length] at this)
        clear hkl
        go_wp2_with fail
        go_ret
        exact ⟨ret_of (by rw [Hs.out]; rfl), below_drewN (Below.refl _ _) _⟩
  · have Hs := Lib.hid (show sameB a b = false by
      cases hs : sameB a b with
      | false => rfl
      | true => exact absurd (by rw [(sameB_iff a b).1 hs]) hl)
    have d1 : ((a.length : Int) != (b.length : Int)) = true := by simp; omega
    clear hl
    go_enter Tryd.func73, Tryd.ntmps73
    go_wp2_with fail
    go_ret
    exact ⟨ret_of (by rw [Hs.out]; rfl), Below.refl _ _⟩
end Go.Proofs.YthilhooomlhfpaaDoor
