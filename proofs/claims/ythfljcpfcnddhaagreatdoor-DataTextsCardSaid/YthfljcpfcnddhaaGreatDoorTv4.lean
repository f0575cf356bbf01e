/- The walk of the document's LeavesOf at a right schema. -/
import Derived.Test.YthfljcpfcnddhaaGreatDoorTv3
import Derived.Test.YthfljcpfcnddhaaGreatDoorTr2
import Derived.Deep.RegionHeld3
import Derived.Laws.Closers25b
namespace Go.Proofs.YthfljcpfcnddhaaGreatDoor
set_option linter.unusedVariables false
set_option linter.unusedSimpArgs false
open Go Go.RowKit Go.ChangeShapes

/-- append of a row of numbers to a row of the call's own -/
theorem wpList_appN {w : World} {ops : Array Oper} {rest : List Oper} {o : Oper} {a : Act} {Q : Exit → Act → World → Prop} (hgd : o.guard = none) (s x : Operand)
    (ho : o.op = .call { callee := .builtin .append, args := #[s, x], argTypes := #[52, 52] }) (B : Nat) (v : Value) (l0 : List Int) (hs : a.eval s = v) (hown : w.ownsRow B 3 1 v l0.length (l0.map intN))
    (B2 : Nat) (u : Value) (l : List Int) (hx : a.eval x = u) (hI : w.ownsRow B2 3 1 u l.length (l.map intN)) (h8 : (l0.length + l.length) * 8 ≤ 140737488355328) (hB : B ≤ w.heap.size)
    (h : ∀ v' w', w'.ownsRow B 3 1 v' (l0 ++ l).length ((l0 ++ l).map intN) → w.grownBy w' v.ownBlock → wpList Tryz.prog ops Q rest (a.put o.dst v') w') : wpList Tryz.prog ops Q (o :: rest) a w := by
  obtain ⟨i0, hi, hz0, hz1, hz2⟩ := info_parts info_intN
  refine wpList_plain hgd fun K hK => ?_
  rcases hI.2 with ⟨rfl, h0⟩ | ⟨g, cap, cur, rfl, hBg, hg, _⟩
  · have hl : l = [] := List.eq_nil_of_length_eq_zero h0
    subst hl
    have hcap : ∃ vb vc, v = .slice vb l0.length vc ∧ l0.length ≤ vc := by
      rcases hown.2 with ⟨h1, h0⟩ | ⟨g, cap, cur, h1, _, _, h3, _⟩
      · exact ⟨none, 0, by rw [h1, h0], by omega⟩
      · exact ⟨_, cap, h1, h3⟩
    obtain ⟨vb, vc, rfl, hvc⟩ := hcap
    unfold Oper.wp execOp
    have hr := run_append_none (P := Tryz.prog) w 52 o.type 3 0 i0 Tryz.underlying52 hi vb l0.length vc none 0 hvc
    simp only [ho, resolve, invoke, builtin, Sem.run_bind, Sem.run_pure, Result.andThen_ok, List.map_toArray, List.map_cons, List.map_nil, hs, hx, hr]
    exact hK _ _ (h _ _ (by simpa using hown) ⟨rfl, rfl, rfl, Nat.le_refl _, fun _ _ _ => rfl⟩)
  · obtain ⟨v', w', hr, h2, h3, _, h5⟩ := run_append_own_at (P := Tryz.prog) w B 52 o.type 3 i0 (.int .i64 0) 1 8 Tryz.underlying52 hi hz0 hz1 hz2 rfl (by decide) v l0.length _ hown ⟨g, 0, none⟩ l.length cap (l.map intN) (by simp) (by
        intro j u hj
        have hjl : j < l.length := by have := (List.getElem?_eq_some_iff.1 hj).1; simpa using this
        rw [Go.WideShapes.add_plain, Nat.zero_add, hI.cellAt j (by omega), hj]) (one_map (fun _ => rfl) l) (by unfold maxLen; omega) h8 hB
    unfold Oper.wp execOp
    simp only [ho, resolve, invoke, builtin, Sem.run_bind, Sem.run_pure, Result.andThen_ok, List.map_toArray, List.map_cons, List.map_nil, hs, hx, hr]
    exact hK _ _ (h v' w' (by simpa using h2) h3)

theorem cellA {w : World} {b o : Nat} {v : Value} (h : w.cell? ⟨b, o, none⟩ = some v) (ob : Obj) : (w.alloc ob).cell? ⟨b, o, none⟩ = some v := (((Below.refl w.heap.size w).alloc (Nat.le_refl _) ob).cell (p := ⟨b, o, none⟩) (block_lt_of_cell h)).trans h
theorem own_baseN {w : World} {B B' n s : Nat} {e : TypeId} {v : Value} {xs : List Value} (h : w.ownsRow B e s v n xs) (hB : B' ≤ B) : w.ownsRow B' e s v n xs := by
  refine ⟨h.1, ?_⟩
  rcases h.2 with h0 | ⟨g, cap, cur, hv, h1, h2, h3⟩
  · exact .inl h0
  · exact .inr ⟨g, cap, cur, hv, Nat.le_trans hB h1, h2, h3⟩
/-- a row of another type stays where a row grows -/
theorem own_pastN {w w' : World} {B B2 s s2 n n2 : Nat} {e e2 : TypeId} {v v2 : Value} {xs xs2 : List Value} {o : Obj} (h : w.ownsRow B e s v n xs) (h2 : w.ownsRow B2 e2 s2 v2 n2 xs2) (he : e ≠ e2) (hg : (w.alloc o).grownBy w' v2.ownBlock) : w'.ownsRow B e s v n xs := by
  refine ⟨h.1, ?_⟩
  rcases h.2 with h0 | ⟨g, cap, cur, hv, h1, h3, h4⟩
  · exact .inl h0
  · exact .inr ⟨g, cap, cur, hv, h1, grown_row h2 hg h3 he, h4⟩
def lfC (x : Lvf × Value) : List Value := [.int .i64 x.1.id, .int .i64 x.1.kind, .int .i64 x.1.mr, .int .i64 x.1.md, cell1 x.2]
theorem lfC_one (p : Lvf × Value) : ∀ u ∈ lfC p, u.oneCell' = true := by
  intro u hu
  simp only [lfC, List.mem_cons, List.not_mem_nil, or_false] at hu
  rcases hu with rfl | rfl | rfl | rfl | rfl <;> first | rfl | exact cell1_one _
end Go.Proofs.YthfljcpfcnddhaaGreatDoor
