/- Some of the errors of package api, where a statement's row lists some of them alone. -/
import Derived.Test.YthilhooomlhfpaaDoorEnv
namespace Go.Proofs.YthilhooomlhfpaaDoor
open Go Go.RowKit Go.ChangeShapes

/-- these errors' variables hold their pointers -/
def ErrsAt (w : World) (adr : Nat → Addr) (ks : List Nat) : Prop := ∀ k ∈ ks, 1 ≤ k ∧ k ≤ 8 ∧ w.cell? ⟨gErr k, 0, none⟩ = some (.iface 232 (.pointer (some (adr k))))
theorem ErrsAt.below {w w' : World} {adr : Nat → Addr} {ks : List Nat} (h : ErrsAt w adr ks) (hb : Below w.heap.size w w') : ErrsAt w' adr ks := fun k hk =>
  ⟨(h k hk).1, (h k hk).2.1, (hb.cell (block_lt_of_cell (h k hk).2.2)).trans (h k hk).2.2⟩
theorem ErrsAt.sub {w : World} {adr : Nat → Addr} {ks ls : List Nat} (h : ErrsAt w adr ks) (hs : (ls.all fun k => ks.contains k) = true) : ErrsAt w adr ls := fun k hk => by
  have := List.all_eq_true.1 hs k hk
  exact h k (by simpa using this)
theorem ErrEnv.errs {w : World} {adr : Nat → Addr} (h : ErrEnv w adr) : ErrsAt w adr [1, 2, 3, 4, 5, 6, 7, 8] := fun k hk => by
  simp only [List.mem_cons, List.not_mem_nil, or_false] at hk
  have h1 : 1 ≤ k ∧ k ≤ 8 := by omega
  exact ⟨h1.1, h1.2, h.cell k h1.1 h1.2⟩
theorem ErrsAt.cell {w : World} {adr : Nat → Addr} {ks : List Nat} (h : ErrsAt w adr ks) (k : Nat) (hk : k ∈ ks) : w.cell? ⟨gErr k, 0, none⟩ = some (.iface 232 (.pointer (some (adr k)))) := (h k hk).2.2

theorem errs_of_sents {W : World} : ∀ (ks : List Nat) (ads : List Addr), SentsAt 232 W (ks.map gErr) ads → ∀ k ∈ ks, W.cell? ⟨gErr k, 0, none⟩ = some (.iface 232 (.pointer (some (ads.getD (ks.idxOf k) ⟨0, 0, none⟩))))
  | [], _, _, _, hk => by cases hk
  | a :: ks, [], h, _, _ => h.elim
  | a :: ks, b :: ads, ⟨h1, _, h3⟩, k, hk => by
    by_cases e : k = a
    · subst e
      simpa using h1
    · have := errs_of_sents ks ads h3 k ((List.mem_cons.1 hk).resolve_left e)
      rw [List.idxOf_cons, show (a == k) = false by simpa using fun h => e h.symm]
      simpa using this
theorem errsAt_of_laid {W : World} (ks : List Nat) (hk : (ks.all fun k => decide (1 ≤ k) && decide (k ≤ 8)) = true) (h : laidMet Tryd.prog (ks.map errDatum) W) : ∃ adr, ErrsAt W adr ks := by
  have hk' : ∀ k ∈ ks, 1 ≤ k ∧ k ≤ 8 := fun k hm => by simpa using List.all_eq_true.1 hk k hm
  obtain ⟨ads, hs, _⟩ := sents_of_laid (W := W) (ks.map errRow) (by
    intro x hx
    obtain ⟨k, hm, rfl⟩ := List.mem_map.1 hx
    obtain ⟨k1, k8⟩ := hk' k hm
    exact err_named _ (by
      have : k = 1 ∨ k = 2 ∨ k = 3 ∨ k = 4 ∨ k = 5 ∨ k = 6 ∨ k = 7 ∨ k = 8 := by omega
      rcases this with rfl | rfl | rfl | rfl | rfl | rfl | rfl | rfl <;> simp)) (by
    have e : ((ks.map errRow).map fun x => (x.1, DataW.iface "*errors.errorString" (.ptr (.agg [.lit (.string x.2.1)])))) = ks.map (errDatum : Nat → String × DataW Unit) := by
      rw [List.map_map]; rfl
    rw [e]; exact h)
  have e : (ks.map errRow).map (·.2.2) = ks.map gErr := by rw [List.map_map]; rfl
  rw [e] at hs
  exact ⟨fun k => ads.getD (ks.idxOf k) ⟨0, 0, none⟩, fun k hm => ⟨(hk' k hm).1, (hk' k hm).2, errs_of_sents ks ads hs k hm⟩⟩
end Go.Proofs.YthilhooomlhfpaaDoor
