/- Values in memory: a slice of them that came in, or of the call's own. -/
import Derived.Test.YthilhooomlhfpaaDoorEnc1
import Derived.Test.YthilhooomlhfpaaDoorCells
import Derived.Test.YthilhooomlhfpaaDoorWireW1
import Derived.Laws.Rows
import Derived.Deep.WholeRow
namespace Go.Proofs.YthilhooomlhfpaaDoor
set_option linter.unusedVariables false
open Go Go.RowKit Go.ChangeShapes

def valCells (x : Val) : List Value := [.int .i64 x.k, .int .i64 x.n, .string x.s]
/-- the three cells of a value at a place -/
def ValAt (w : World) (b o : Nat) (x : Val) : Prop :=
  w.cell? ⟨b, o, none⟩ = some (.int .i64 x.k) ∧ w.cell? ⟨b, o + 1, none⟩ = some (.int .i64 x.n) ∧ w.cell? ⟨b, o + 2, none⟩ = some (.string x.s)
/-- a slice reads as values -/
def IsVals (w : World) (v : Value) (l : List Val) : Prop :=
  (l = [] ∧ ∃ ad cap, v = .slice ad 0 cap) ∨ ∃ b off cap, v = .slice (some ⟨b, off, none⟩) l.length cap ∧ b < w.heap.size ∧ ∀ (j : Nat) (x : Val), l[j]? = some x → ValAt w b (off + j * 3) x
theorem ValAt.below {w w' : World} {b o : Nat} {x : Val} {B : Nat} (h : ValAt w b o x) (hb : Below B w w') (hB : b < B) : ValAt w' b o x :=
  ⟨(hb.cell (p := ⟨b, o, none⟩) hB).trans h.1, (hb.cell (p := ⟨b, o + 1, none⟩) hB).trans h.2.1, (hb.cell (p := ⟨b, o + 2, none⟩) hB).trans h.2.2⟩
theorem IsVals.below {w w' : World} {v : Value} {l : List Val} {B : Nat} (h : IsVals w v l) (hb : Below B w w') (hB : w.heap.size ≤ B) : IsVals w' v l := by
  rcases h with h | ⟨b, off, cap, h1, h2, h3⟩
  · exact .inl h
  · exact .inr ⟨b, off, cap, h1, Nat.lt_of_lt_of_le h2 hb.size, fun j x hj => (h3 j x hj).below hb (by omega)⟩
theorem IsVals.form {w : World} {v : Value} {l : List Val} (h : IsVals w v l) : ∃ ad cap, v = .slice ad l.length cap := by
  rcases h with ⟨rfl, ad, cap, rfl⟩ | ⟨b, off, cap, rfl, _⟩
  · exact ⟨ad, cap, rfl⟩
  · exact ⟨_, cap, rfl⟩
theorem IsVals.at {w : World} {ad : Option Addr} {n cap : Nat} {l : List Val} (h : IsVals w (.slice ad n cap) l) (hl : 0 < l.length) :
    ∃ b off, ad = some ⟨b, off, none⟩ ∧ n = l.length ∧ b < w.heap.size ∧ ∀ (j : Nat) (x : Val), l[j]? = some x → ValAt w b (off + j * 3) x := by
  rcases h with ⟨rfl, _⟩ | ⟨b, off, cap', hv, h2, h3⟩
  · simp at hl
  · injection hv with e1 e2 e3
    exact ⟨b, off, e1, e2, h2, h3⟩
theorem flat_at (l : List Val) : ∀ (j : Nat) (x : Val), l[j]? = some x → (l.flatMap valCells)[j * 3]? = some (.int .i64 x.k) ∧ (l.flatMap valCells)[j * 3 + 1]? = some (.int .i64 x.n) ∧ (l.flatMap valCells)[j * 3 + 2]? = some (.string x.s) := by
  induction l with
  | nil => intro j x h; simp at h
  | cons a l ih =>
    intro j x h
    cases j with
    | zero => simp at h; subst h; simp [valCells]
    | succ j =>
      have := ih j x (by simpa using h)
      rw [List.flatMap_cons]
      have e : (valCells a).length = 3 := rfl
      refine ⟨?_, ?_, ?_⟩
      · rw [List.getElem?_append_right (by rw [e]; omega), e, show (j + 1) * 3 - 3 = j * 3 by omega]; exact this.1
      · rw [List.getElem?_append_right (by rw [e]; omega), e, show (j + 1) * 3 + 1 - 3 = j * 3 + 1 by omega]; exact this.2.1
      · rw [List.getElem?_append_right (by rw [e]; omega), e, show (j + 1) * 3 + 2 - 3 = j * 3 + 2 by omega]; exact this.2.2
theorem flat_len (l : List Val) : (l.flatMap valCells).length = l.length * 3 := by
  induction l with
  | nil => rfl
  | cons a l ih => rw [List.flatMap_cons, List.length_append, ih, List.length_cons]; show 3 + _ = _; omega
/-- a row of the call's own reads so -/
theorem IsVals.of_own {w : World} {B : Nat} {e : TypeId} {v : Value} {l : List Val} (h : w.ownsRow B e 3 v l.length (l.flatMap valCells)) : IsVals w v l := by
  rcases h.2 with ⟨rfl, h0⟩ | ⟨g, cap, cur, rfl, hB, hg, _⟩
  · exact .inl ⟨List.eq_nil_of_length_eq_zero h0, none, 0, rfl⟩
  · refine .inr ⟨g, 0, cap, rfl, (Array.getElem?_eq_some_iff.1 hg).1, fun j x hj => ?_⟩
    have hjl := (List.getElem?_eq_some_iff.1 hj).1
    obtain ⟨f1, f2, f3⟩ := flat_at l j x hj
    have hc := fun q (hq : q < l.length * 3) => h.cellAt q hq
    refine ⟨?_, ?_, ?_⟩
    · rw [Nat.zero_add, hc _ (by omega), f1]
    · rw [Nat.zero_add, hc _ (by omega), f2]
    · rw [Nat.zero_add, hc _ (by omega), f3]

/-- a struct loaded from a place in a block -/
theorem run_loadVar_cells {P : Program} (w : World) (b f : Nat) (ty : TypeId) (cs : Array Value) (d : TypeDesc) (hc : ∀ j v, cs[j]? = some v → w.cell? ⟨b, f + j, none⟩ = some v)
    (hu : P.underlying ty = some d) (hd : (match d with | .struct _ | .array _ _ => true | _ => false) = true) (hi : (P.info? ty).map (·.size) = some cs.size) :
    (loadVar ty ⟨b, f, none⟩).run P w = .ok (.agg cs) w := by
  have hl : (loadCells ⟨b, f, none⟩ cs.toList.length).run P w = .ok cs.toList.toArray w :=
    run_loadCells_list (P := P) w ⟨b, f, none⟩ cs.toList (fun j v hv => by
      rw [Go.WideShapes.add_plain]
      exact hc j v (by simpa using hv))
  cases hq : P.info? ty with
  | none => simp [hq] at hi
  | some i =>
    have hs : i.size = cs.size := by simpa [hq] using hi
    have hagg : (isAgg ty).run P w = .ok true w := by
      unfold isAgg
      rw [Sem.run_bind, run_underlying hu w]
      cases d <;> simp_all
    simp only [Array.length_toList, Array.toArray_toList] at hl
    simp [loadVar, Sem.run_bind, hagg, sizeOf, typeInfo, hq, hs, hl]
theorem wpList_load_cells {P : Program} {w : World} {ops : Array Oper} {rest : List Oper} {o : Oper} {a : Act} {Q : Exit → Act → World → Prop} (hgd : o.guard = none) (ty : TypeId) (x : Operand) (ho : o.op = .load ty x)
    (b f : Nat) (hx : a.eval x = .pointer (some ⟨b, f, none⟩)) (cs : Array Value) (d : TypeDesc) (hc : ∀ j v, cs[j]? = some v → w.cell? ⟨b, f + j, none⟩ = some v)
    (hu : P.underlying ty = some d) (hd : (match d with | .struct _ | .array _ _ => true | _ => false) = true) (hi : (P.info? ty).map (·.size) = some cs.size)
    (h : wpList P ops Q rest (a.put o.dst (.agg cs)) w) : wpList P ops Q (o :: rest) a w := by
  refine wpList_plain hgd fun K hK => ?_
  unfold Oper.wp execOp
  simp only [ho, hx, Instr.loadAt, Instr.sureAddr, Sem.run_bind, Sem.run_pure, Result.andThen_ok, run_loadVar_cells w b f ty cs d hc hu hd hi]
  exact hK _ _ h
/-- a whole row stored into the block that was made last -/
theorem wpList_store_new {P : Program} {w : World} {ops : Array Oper} {rest : List Oper} {o : Oper} {a : Act} {Q : Exit → Act → World → Prop} (hgd : o.guard = none) (hd : o.dst = none) (ty : TypeId) (x v : Operand) (ho : o.op = .store ty x v)
    (hx : a.eval x = .pointer (some ⟨w.heap.size, 0, none⟩)) (old cells : Array Value) (hv : a.eval v = .agg cells)
    (hi : (P.info? ty).map (·.size) = some cells.size) (hs : old.size = cells.size) (h1 : cells.all (·.oneCell') = true)
    (h : wpList P ops Q rest a (w.alloc (.cells cells ty))) : wpList P ops Q (o :: rest) a (w.alloc (.cells old ty)) := by
  refine wpList_plain hgd fun K hK => ?_
  have hr := run_storeVar_new (P := P) w ty old cells hi hs h1
  unfold Oper.wp execOp
  simp [ho, hx, hv, Instr.storeAt, Instr.sureAddr, hr, Result.andThen, Oper.upon_skip, Act.put, hd]
  exact hK _ _ h

def valA (x : Val) : Array Value := #[.int .i64 x.k, .int .i64 x.n, .string x.s]
theorem ValAt.cells {w : World} {b o : Nat} {x : Val} (h : ValAt w b o x) : ∀ j v, (valA x)[j]? = some v → w.cell? ⟨b, o + j, none⟩ = some v := by
  intro j v hj
  match j, hj with
  | 0, hj => simp [valA] at hj; subst hj; exact h.1
  | 1, hj => simp [valA] at hj; subst hj; exact h.2.1
  | 2, hj => simp [valA] at hj; subst hj; exact h.2.2
  | j + 3, hj => simp [valA] at hj
theorem valA_one (x : Val) : (valA x).all (·.oneCell') = true := by simp [valA, Value.oneCell']
theorem val_size : (Tryd.prog.info? 34).map (·.size) = some 3 := by kernel_rfl
theorem val_zero : (Tryd.prog.info? 34).map (·.zero) = some (some (.agg #[.int .i64 0, .int .i64 0, .string ByteArray.empty])) := by kernel_rfl
end Go.Proofs.YthilhooomlhfpaaDoor
