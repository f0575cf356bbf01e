/- append(own, s...) at an operation, and where the new slice lies. -/
import Derived.Test.YtdfbfhgjpihkiaaDoorOwnR
import Derived.Deep.AppendLies
namespace Go.Proofs.YtdfbfhgjpihkiaaDoor
set_option linter.unusedVariables false
open Go Go.RowKit Go.ChangeShapes

theorem wp_appI {w : World} {o : Oper} {a : Act} {K : Act → World → Prop} {Q : Exit → Act → World → Prop} (s x : Operand)
    (ho : o.op = .call { callee := .builtin .append, args := #[s, x], argTypes := #[22, 22] }) (B : Nat) (v : Value) (l0 : List Int) (hs : a.eval s = v) (hown : w.ownsRow B 3 1 v l0.length (l0.map iV))
    (u : Value) (l : List Int) (hx : a.eval x = u) (hI : IsInts w u l) (h8 : (l0.length + l.length) * 8 ≤ 140737488355328) (hB : B ≤ w.heap.size)
    (h : ∀ v' w', w'.ownsRow B 3 1 v' (l0 ++ l).length ((l0 ++ l).map iV) → w.grownBy w' v.ownBlock → (v'.ownBlock = v.ownBlock ∨ v'.ownBlock = some w.heap.size) → K (a.put o.dst v') w') : Oper.wp Tryd.prog o a w K Q := by
  obtain ⟨i0, hi, hz0, hz1, hz2⟩ := info_parts info_iV
  rcases hI with ⟨rfl, ad, cap, rfl⟩ | ⟨b, off, cap, rfl, hlt, hc⟩
  · obtain ⟨vb, vc, rfl, hvc⟩ := own_cap hown
    unfold Oper.wp execOp
    have hr := run_append_none (P := Tryd.prog) w 22 o.type 3 0 i0 Tryd.underlying22 hi vb l0.length vc ad cap hvc
    simp only [ho, resolve, invoke, builtin, Sem.run_bind, Sem.run_pure, Result.andThen_ok, List.map_toArray, List.map_cons, List.map_nil, hs, hx, hr]
    exact h _ _ (by simpa using hown) (grownBy_refl _ _) (.inl rfl)
  · obtain ⟨v', w', hr, h2, h3, _, h5⟩ := run_append_own_at (P := Tryd.prog) w B 22 o.type 3 i0 (.int .i64 0) 1 8 Tryd.underlying22 hi hz0 hz1 hz2 rfl (by decide) v l0.length _ hown ⟨b, off, none⟩ l.length cap (l.map iV) (by simp) (by
        intro j u hj
        rw [List.getElem?_map] at hj
        cases hlj : l[j]? with
        | none => simp [hlj] at hj
        | some x =>
          simp [hlj] at hj
          subst hj
          rw [Go.WideShapes.add_plain]; exact hc j x hlj) (one_map (fun _ => rfl) l) (by unfold maxLen; omega) h8 hB
    unfold Oper.wp execOp
    simp only [ho, resolve, invoke, builtin, Sem.run_bind, Sem.run_pure, Result.andThen_ok, List.map_toArray, List.map_cons, List.map_nil, hs, hx, hr]
    exact h v' w' (by simpa using h2) h3 h5
theorem wp_appV {w : World} {o : Oper} {a : Act} {K : Act → World → Prop} {Q : Exit → Act → World → Prop} (s x : Operand)
    (ho : o.op = .call { callee := .builtin .append, args := #[s, x], argTypes := #[25, 25] }) (B : Nat) (v : Value) (l0 : List Val) (hs : a.eval s = v) (hown : w.ownsRow B 29 3 v l0.length (l0.flatMap valCells))
    (u : Value) (l : List Val) (hx : a.eval x = u) (hI : IsVals w u l) (h8 : (l0.length + l.length) * 32 ≤ 140737488355328) (hB : B ≤ w.heap.size)
    (h : ∀ v' w', w'.ownsRow B 29 3 v' (l0 ++ l).length ((l0 ++ l).flatMap valCells) → w.grownBy w' v.ownBlock → (v'.ownBlock = v.ownBlock ∨ v'.ownBlock = some w.heap.size) → K (a.put o.dst v') w') : Oper.wp Tryd.prog o a w K Q := by
  obtain ⟨i0, hi, hz0, hz1, hz2⟩ := val_infoB
  rcases hI with ⟨rfl, ad, cap, rfl⟩ | ⟨b, off, cap, rfl, hlt, hc⟩
  · obtain ⟨vb, vc, rfl, hvc⟩ := own_cap hown
    unfold Oper.wp execOp
    have hr := run_append_none (P := Tryd.prog) w 25 o.type 29 0 i0 Tryd.underlying25 hi vb l0.length vc ad cap hvc
    simp only [ho, resolve, invoke, builtin, Sem.run_bind, Sem.run_pure, Result.andThen_ok, List.map_toArray, List.map_cons, List.map_nil, hs, hx, hr]
    exact h _ _ (by simpa using hown) (grownBy_refl _ _) (.inl rfl)
  · obtain ⟨v', w', hr, h2, h3, _, h5⟩ := run_append_own_at (P := Tryd.prog) w B 25 o.type 29 i0 (.agg #[.int .i64 0, .int .i64 0, .string ByteArray.empty]) 3 32 Tryd.underlying25 hi hz0 hz1 hz2 rfl (by decide) v l0.length _ hown ⟨b, off, none⟩ l.length cap (l.flatMap valCells) (by rw [flat_len]) (by
        intro j u hj
        rw [Go.WideShapes.add_plain]; exact flat_cell l off hc j u hj) (flat_one l) (by unfold maxLen; omega) h8 hB
    unfold Oper.wp execOp
    simp only [ho, resolve, invoke, builtin, Sem.run_bind, Sem.run_pure, Result.andThen_ok, List.map_toArray, List.map_cons, List.map_nil, hs, hx, hr]
    exact h v' w' (by simpa using h2) h3 h5
/-- a row that the append did not touch -/
theorem own_far {w w' : World} {B s n : Nat} {e : TypeId} {v x : Value} {xs : List Value} (h : w.ownsRow B e s v n xs) (hg : w.grownBy w' x.ownBlock) (hne : ∀ k, v.ownBlock = some k → x.ownBlock ≠ some k) : w'.ownsRow B e s v n xs := by
  refine ⟨h.1, ?_⟩
  rcases h.2 with h2 | ⟨g, cap, cur, h1, h2, h3, h4⟩
  · exact .inl h2
  · exact .inr ⟨g, cap, cur, h1, h2, (hg.block g (row_lt h3) (fun e => hne g (by rw [h1]; rfl) e.symm)).trans h3, h4⟩
end Go.Proofs.YtdfbfhgjpihkiaaDoor
