/- shred.Check at whatever leaf and column. -/
import Derived.Test.YthilhooomlhfpaaDoorCol3
namespace Go.Proofs.YthilhooomlhfpaaDoor
set_option linter.unusedVariables false
open Go Go.RowKit Go.ChangeShapes

theorem ck_any (f : Lf) (c : Col) (free : Bool) (vf vc : Value) (w : World) (adr : Nat → Addr) (hE : ErrsAt w adr [3, 4]) (hf : IsLf w vf f) (hc : IsCol w vc c) (fo : f.Ok) (co : c.Ok) :
    Calls Tryd.prog 47 #[vf, vc, .bool free] w fun e w' => (∃ u, e = .returned u ∧ IsErr w' adr (colErr f c free) u) ∧ Below w.heap.size w w' := by
  by_cases h : headB f c free = true
  · exact ck_head f c free vf vc w adr hE hf hc fo co h
  · have h' : headB f c free = false := by simpa using h
    rw [colErr_head h']
    have fin : ∀ {Q : Ending → World → Prop}, (∀ e w', (e = .returned (.iface 232 (.pointer (some (adr 3)))) ∧ Below w.heap.size w w') → Q e w') → Q = Q := fun _ => rfl
    have step : (Calls Tryd.prog 47 #[vf, vc, .bool free] w fun e w' => e = .returned (.iface 232 (.pointer (some (adr 3)))) ∧ Below w.heap.size w w') → Calls Tryd.prog 47 #[vf, vc, .bool free] w fun e w' => (∃ u, e = .returned u ∧ IsErr w' adr (.sent 3) u) ∧ Below w.heap.size w w' := fun hc => hc.mono fun e w' ⟨h1, h2⟩ => ⟨⟨_, h1, by decide, by decide, rfl⟩, h2⟩
    apply step
    clear step fin
    unfold headB at h'
    by_cases h1 : rightB f = true
    · by_cases h2 : f.id = c.id
      · by_cases h3 : c.rep.length = c.df.length
        · have h4 : (free || (c.rep.head?.getD 0 == 0)) = false := by simpa [h1, h2, h3] using h'
          rw [Bool.or_eq_false_iff] at h4
          obtain ⟨h5, h6⟩ := h4
          cases hr : c.rep with
          | nil => rw [hr] at h6; simp at h6
          | cons r l =>
            rw [hr] at h6
            exact ck_first f c free vf vc w adr hE hf hc h5 h1 h2 h3 r (by rw [hr]; rfl) (by simpa using h6)
        · exact ck_len f c free vf vc w adr hE hf hc h1 h2 h3
      · exact ck_id f c free vf vc w adr hE hf hc h1 h2
    · exact ck_right f c free vf vc w adr hE hf hc (by simpa using h1)
end Go.Proofs.YthilhooomlhfpaaDoor
