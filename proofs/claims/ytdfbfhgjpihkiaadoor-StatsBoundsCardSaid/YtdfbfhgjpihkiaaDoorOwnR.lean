/- Rows of the call's own, by their place: what is kept where other blocks change; appending a list that came in onto one. -/
import Derived.Test.YtdfbfhgjpihkiaaDoorMKnown
import Derived.Test.YtdfbfhgjpihkiaaDoorMRow
namespace Go.Proofs.YtdfbfhgjpihkiaaDoor
set_option linter.unusedVariables false
open Go Go.RowKit Go.ChangeShapes

/-- an int -/
def iV (x : Int) : Value := .int .i64 x
theorem info_iV : (Tryd.prog.info? 3).map (fun i => (i.zero, i.size, i.bytes)) = some (some (.int .i64 0), 1, 8) := by kernel_rfl
theorem ownK {w w' : World} {B n s : Nat} {e : TypeId} {v : Value} {xs : List Value} (h : w.ownsRow B e s v n xs) (hk : ∀ i, B ≤ i → i < w.heap.size → w'.heap[i]? = w.heap[i]?) : w'.ownsRow B e s v n xs := by
  refine ⟨h.1, ?_⟩
  rcases h.2 with h2 | ⟨g, cap, cur, h1, h2, h3, h4⟩
  · exact .inl h2
  · exact .inr ⟨g, cap, cur, h1, h2, (hk g h2 (row_lt h3)).trans h3, h4⟩
theorem ownBelow {w w' : World} {B n s : Nat} {e : TypeId} {v : Value} {xs : List Value} (h : w.ownsRow B e s v n xs) (hb : Below w.heap.size w w') : w'.ownsRow B e s v n xs :=
  ownK h fun i _ hi => hb.block i hi
/-- nothing appended -/
theorem run_append_none {P : Program} (w : World) (t ty e k : TypeId) (i : TypeInfo) (ht : P.underlying t = some (.slice e)) (hi : P.info? e = some i) (b : Option Addr) (n c : Nat) (x : Option Addr) (c' : Nat) (hc : n ≤ c) :
    (Builtin.append_ #[t, t] ty #[.slice b n c, .slice x 0 c']).run P w = .ok (.slice b n c) w := by
  cases b <;> cases x <;> simp [Builtin.append_, run_underlying ht, sizeOf, typeInfo, hi, Builtin.lenOf, hc, Builtin.firstCells, loadCells, loadCellsFrom, storeCells]
theorem own_cap {w : World} {B n s : Nat} {e : TypeId} {v : Value} {xs : List Value} (h : w.ownsRow B e s v n xs) : ∃ b c, v = .slice b n c ∧ n ≤ c := by
  rcases h.2 with ⟨rfl, rfl⟩ | ⟨g, cap, cur, rfl, _, _, h4, _⟩
  · exact ⟨none, 0, rfl, Nat.le_refl _⟩
  · exact ⟨_, cap, rfl, h4⟩
theorem grownBy_refl (w : World) (k : Option Nat) : w.grownBy w k := ⟨rfl, rfl, rfl, Nat.le_refl _, fun _ _ _ => rfl⟩
theorem own_grown {w w' W : World} {B n s : Nat} {e : TypeId} {v : Value} {xs : List Value} (h : w.ownsRow B e s v n xs) (hg : w.grownBy w' v.ownBlock) (hB : B ≤ w.heap.size) {B' : Nat} (hB' : B' ≤ B) (hb : Below B' W w) : Below B' W w' :=
  hb.grown hg (by omega) (fun k hk => Nat.le_trans hB' (h.lt k hk).1)

/-- append of numbers that are there onto a row of the call's own -/
theorem wpList_appI {w : World} {ops : Array Oper} {rest : List Oper} {o : Oper} {a : Act} {Q : Exit → Act → World → Prop} (hg : o.guard = none) (s x : Operand)
    (ho : o.op = .call { callee := .builtin .append, args := #[s, x], argTypes := #[22, 22] }) (B : Nat) (v : Value) (l0 : List Int) (hs : a.eval s = v) (hown : w.ownsRow B 3 1 v l0.length (l0.map iV))
    (u : Value) (l : List Int) (hx : a.eval x = u) (hI : IsInts w u l) (h8 : (l0.length + l.length) * 8 ≤ 140737488355328) (hB : B ≤ w.heap.size)
    (h : ∀ v' w', w'.ownsRow B 3 1 v' (l0 ++ l).length ((l0 ++ l).map iV) → w.grownBy w' v.ownBlock → (∃ ad cap, v' = .slice ad (l0.length + l.length) cap) → wpList Tryd.prog ops Q rest (a.put o.dst v') w') : wpList Tryd.prog ops Q (o :: rest) a w := by
  obtain ⟨i0, hi, hz0, hz1, hz2⟩ := info_parts info_iV
  rcases hI with ⟨rfl, ad, cap, rfl⟩ | ⟨b, off, cap, rfl, hlt, hc⟩
  · obtain ⟨vb, vc, rfl, hvc⟩ := own_cap hown
    refine wpList_plain hg fun K hK => ?_
    unfold Oper.wp execOp
    have hr := run_append_none (P := Tryd.prog) w 22 o.type 3 0 i0 Tryd.underlying22 hi vb l0.length vc ad cap hvc
    simp only [ho, resolve, invoke, builtin, Sem.run_bind, Sem.run_pure, Result.andThen_ok, List.map_toArray, List.map_cons, List.map_nil, hs, hx, hr]
    exact hK _ _ (h _ _ (by simpa using hown) (grownBy_refl _ _) ⟨vb, vc, by simp⟩)
  · refine wpList_append_own _ hg s x 22 ho B 3 i0 (.int .i64 0) 1 8 Tryd.underlying22 hi hz0 hz1 hz2 rfl (by decide) v l0.length _ hs hown ⟨b, off, none⟩ l.length cap (l.map iV) hx (by simp) ?_ (one_map (fun _ => rfl) l) (by unfold maxLen; omega) h8 hB ?_
    · intro j u hj
      rw [List.getElem?_map] at hj
      cases hlj : l[j]? with
      | none => simp [hlj] at hj
      | some x =>
        simp [hlj] at hj
        subst hj
        rw [Go.WideShapes.add_plain]; exact hc j x hlj
    · intro v' w' h1 h2 _
      obtain ⟨vb, vc, e, _⟩ := own_cap h1
      exact h v' w' (by simpa using h1) h2 ⟨vb, vc, e⟩
/-- .. of values -/
theorem wpList_appV {w : World} {ops : Array Oper} {rest : List Oper} {o : Oper} {a : Act} {Q : Exit → Act → World → Prop} (hg : o.guard = none) (s x : Operand)
    (ho : o.op = .call { callee := .builtin .append, args := #[s, x], argTypes := #[25, 25] }) (B : Nat) (v : Value) (l0 : List Val) (hs : a.eval s = v) (hown : w.ownsRow B 29 3 v l0.length (l0.flatMap valCells))
    (u : Value) (l : List Val) (hx : a.eval x = u) (hI : IsVals w u l) (h8 : (l0.length + l.length) * 32 ≤ 140737488355328) (hB : B ≤ w.heap.size)
    (h : ∀ v' w', w'.ownsRow B 29 3 v' (l0 ++ l).length ((l0 ++ l).flatMap valCells) → w.grownBy w' v.ownBlock → (∃ ad cap, v' = .slice ad (l0.length + l.length) cap) → wpList Tryd.prog ops Q rest (a.put o.dst v') w') : wpList Tryd.prog ops Q (o :: rest) a w := by
  obtain ⟨i0, hi, hz0, hz1, hz2⟩ := val_infoB
  rcases hI with ⟨rfl, ad, cap, rfl⟩ | ⟨b, off, cap, rfl, hlt, hc⟩
  · obtain ⟨vb, vc, rfl, hvc⟩ := own_cap hown
    refine wpList_plain hg fun K hK => ?_
    unfold Oper.wp execOp
    have hr := run_append_none (P := Tryd.prog) w 25 o.type 29 0 i0 Tryd.underlying25 hi vb l0.length vc ad cap hvc
    simp only [ho, resolve, invoke, builtin, Sem.run_bind, Sem.run_pure, Result.andThen_ok, List.map_toArray, List.map_cons, List.map_nil, hs, hx, hr]
    exact hK _ _ (h _ _ (by simpa using hown) (grownBy_refl _ _) ⟨vb, vc, by simp⟩)
  · refine wpList_append_own _ hg s x 25 ho B 29 i0 (.agg #[.int .i64 0, .int .i64 0, .string ByteArray.empty]) 3 32 Tryd.underlying25 hi hz0 hz1 hz2 rfl (by decide) v l0.length _ hs hown ⟨b, off, none⟩ l.length cap (l.flatMap valCells) hx (by rw [flat_len]) ?_ (flat_one l) (by unfold maxLen; omega) h8 hB ?_
    · intro j u hj
      rw [Go.WideShapes.add_plain]; exact flat_cell l off hc j u hj
    · intro v' w' h1 h2 _
      obtain ⟨vb, vc, e, _⟩ := own_cap h1
      exact h v' w' (by simpa using h1) h2 ⟨vb, vc, e⟩
end Go.Proofs.YtdfbfhgjpihkiaaDoor
