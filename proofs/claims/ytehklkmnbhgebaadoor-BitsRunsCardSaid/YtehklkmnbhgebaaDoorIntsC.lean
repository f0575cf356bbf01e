/- The walk of the laws' ints: the copy is no longer than its room. Runs where check finds an error. -/
import Derived.Test.YtehklkmnbhgebaaDoorBitsL2
import Derived.Test.YtehklkmnbhgebaaDoorRunsW2
namespace Go.Proofs.YtehklkmnbhgebaaDoor
set_option linter.unusedVariables false
open Go Go.RowKit Go.ChangeShapes

theorem Capped.of_own {w : World} {B n : Nat} {e : TypeId} {v : Value} {xs : List Value} (h : w.ownsRow B e 1 v n xs) : Capped v := by
  intro ad m cap hv
  rcases h.2 with ⟨h1, h0⟩ | ⟨g, cap', cur, h1, _, _, h3, _⟩
  · rw [h1] at hv; injection hv with _ h4 h5; omega
  · rw [h1] at hv; injection hv with _ h4 h5; omega

set_option maxRecDepth 100000 in
set_option maxHeartbeats 1000000 in
theorem ints_cap (v : Value) (l : List Int) (w : World) (hI : IsInts w v l) (h2 : l.length ≤ 20000) :
    Calls Tryd.prog 29 #[v] w fun e w' => (∃ u, e = .returned u ∧ IsInts w' u l ∧ Capped u) ∧ Below w.heap.size w w' := by
  obtain ⟨i0, hi, hz0, hz1, hz2⟩ := info_parts info_int
  rcases hI with ⟨rfl, ad, cap, rfl⟩ | ⟨b, off, cap, rfl, hlt, hc⟩
  · have hn : IsInts w (.slice none 0 0) [] := .inl ⟨rfl, none, 0, rfl⟩
    have hcp : Capped (.slice none 0 0) := by intro a n c h; injection h with _ h1 h2; omega
    cases ad with
    | none =>
      go_enter Tryd.func29, Tryd.ntmps29
      go_wp2
      go_ret
      exact ⟨⟨_, rfl, hn, hcp⟩, Below.refl _ _⟩
    | some a =>
      go_enter Tryd.func29, Tryd.ntmps29
      go_wp2
      go_ret
      exact ⟨⟨_, rfl, hn, hcp⟩, Below.refl _ _⟩
  · go_enter Tryd.func29, Tryd.ntmps29
    go_wp2_with (at_builtin; refine wpList_append_own _ rfl _ _ 39 rfl w.heap.size 3 i0 (.int .i64 0) 1 8 Tryd.underlying39 hi hz0 hz1 hz2 rfl (by decide) _ 0 [] rfl (World.ownsRow_nil _ _ _ _) ⟨b, off, none⟩ l.length cap (l.map i64V) rfl (by simp) ?c2 ?c3 ?c4 ?c5 (Nat.le_refl _) ?_)
    case c2 =>
      intro j u hj
      rw [List.getElem?_map] at hj
      cases hlj : l[j]? with
      | none => simp [hlj] at hj
      | some x =>
        simp [hlj] at hj
        subst hj
        rw [Go.WideShapes.add_plain]; exact hc j x hlj
    case c3 => exact one_map (fun _ => rfl) l
    case c4 => unfold maxLen; omega
    case c5 => omega
    intro v' w2 hown' hgrow _
    have hown2 : w2.ownsRow w.heap.size 3 1 v' l.length (l.map fun x => .int .i64 x) := by first | exact hown' | simpa [i64V] using hown'
    go_wp2
    go_ret
    refine ⟨⟨_, rfl, IsNums.of_own (B := w.heap.size) (e := 3) hown2, Capped.of_own hown2⟩, ?_⟩
    exact (Below.refl w.heap.size w).grown hgrow (Nat.le_refl _) (fun k hk => by simp [Value.ownBlock] at hk)

set_option maxRecDepth 100000 in
set_option maxHeartbeats 1000000 in
/-- Runs where check finds an error -/
theorem runs_err (v : Value) (wd : Int) (w : World) (adr : Nat → Addr) (e : GErr) (hn : e ≠ .nil)
    (hck : ∀ w1, Below w.heap.size w w1 → Calls Tryd.prog 51 #[v, .int .i64 wd] w1 fun r w' => (∃ u, r = .returned u ∧ IsErr w' adr e u) ∧ Below w1.heap.size w1 w') :
    Calls Tryd.prog 30 #[v, .int .i64 wd] w fun r w' => (∃ u, r = .returned (.tuple #[.string ⟨#[]⟩, u]) ∧ IsErr w' adr e u) ∧ Below w.heap.size w w' := by
  have Hck := Lib.hid hck; clear hck
  have hb0 : Below w.heap.size w (w.alloc (.cells #[.int .i64 wd] 3)) := (Below.refl _ _).alloc (Nat.le_refl _) _
  have Hb0 := Lib.hid hb0; clear hb0
  go_enter Tryd.func30, Tryd.ntmps30
  go_wp2_with fail
  refine (Hck.out _ Hb0.out).mono ?_
  rintro r w1 ⟨⟨u, rfl, he⟩, hb1⟩
  have hbw : Below w.heap.size w w1 := Hb0.out.trans (hb1.mono (by simp))
  clear hb1
  obtain ⟨T, a, rfl, rfl | rfl⟩ := he.some hn
  · go_wp2_with fail
    go_ret2
    exact ⟨⟨_, rfl, he⟩, hbw⟩
  · go_wp2_with fail
    go_ret2
    exact ⟨⟨_, rfl, he⟩, hbw⟩
end Go.Proofs.YtehklkmnbhgebaaDoor
