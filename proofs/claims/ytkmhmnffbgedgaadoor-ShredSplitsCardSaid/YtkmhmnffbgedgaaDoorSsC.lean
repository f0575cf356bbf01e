/- The law of ShredSplits. -/
import Derived.Test.YtkmhmnffbgedgaaDoorSsB
import Derived.Test.YtkmhmnffbgedgaaDoorDtArgs
import Derived.LaidSub
namespace Go.Proofs.YtkmhmnffbgedgaaDoor
set_option linter.unusedVariables false
open Go Go.RowKit Go.ChangeShapes

theorem errs_of_sentsS {W : World} : ∀ (ks : List Nat) (ads : List Addr), SentsAt 174 W (ks.map gErr) ads → ∀ k ∈ ks, W.cell? ⟨gErr k, 0, none⟩ = some (.iface 174 (.pointer (some (ads.getD (ks.idxOf k) ⟨0, 0, none⟩))))
  | [], _, _, _, hk => by cases hk
  | a :: ks, [], h, _, _ => h.elim
  | a :: ks, b :: ads, ⟨h1, _, h3⟩, k, hk => by
    by_cases e : k = a
    · subst e
      simpa using h1
    · have := errs_of_sentsS ks ads h3 k ((List.mem_cons.1 hk).resolve_left e)
      rw [List.idxOf_cons, show (a == k) = false by simpa using fun h => e h.symm]
      simpa using this
theorem errsAt_of_laidS {W : World} (ks : List Nat) (hk : (ks.all fun k => decide (1 ≤ k) && decide (k ≤ 8)) = true) (hn : ∀ k ∈ ks, Tryd.prog.globalNamed (errRow k).1 = some (errRow k).2.2 ∧ (Tryd.prog.globals[(errRow k).2.2]?).map (·.type) = some 36) (h : laidMet Tryd.prog (ks.map errDatum) W) : ∃ adr, ErrsAt W adr ks := by
  have hk' : ∀ k ∈ ks, 1 ≤ k ∧ k ≤ 8 := fun k hm => by simpa using List.all_eq_true.1 hk k hm
  obtain ⟨ads, hs, _⟩ := sents_of_laid (W := W) (ks.map errRow) (by
    intro x hx
    obtain ⟨k, hm, rfl⟩ := List.mem_map.1 hx
    exact hn k hm) (by
    have e : ((ks.map errRow).map fun x => (x.1, DataW.iface "*errors.errorString" (.ptr (.agg [.lit (.string x.2.1)])))) = ks.map (errDatum : Nat → String × DataW Unit) := by
      rw [List.map_map]; rfl
    rw [e]; exact h)
  have e : (ks.map errRow).map (·.2.2) = ks.map gErr := by rw [List.map_map]; rfl
  rw [e] at hs
  exact ⟨fun k => ads.getD (ks.idxOf k) ⟨0, 0, none⟩, fun k hm => ⟨(hk' k hm).1, (hk' k hm).2, errs_of_sentsS ks ads hs k hm⟩⟩

theorem shredSplits_law {w : World} (n : Nd) (u : Value) (hN : IsNds (· < w.heap.size) w u n.sub) (hO : ∀ x ∈ nodes n, x.Ok1) (va : Value) (la : List Dt) (hA : IsDts (· < w.heap.size) w va la) (h88a : la.length * 88 ≤ 140737488355328) (hDA : ∀ x ∈ dtsL la, x.Ok1)
    (vb : Value) (lb : List Dt) (hB : IsDts (· < w.heap.size) w vb lb) (h88b : lb.length * 88 ≤ 140737488355328) (hDB : ∀ x ∈ dtsL lb, x.Ok1) (a : Int) (ha0 : -9223372036854775808 ≤ a) (ha1 : a < 9223372036854775808) (hL : laidMetH Tryd.prog Rows.shredSplitsRow.laid w) :
    Calls Tryd.prog 4 #[.agg (ndA n u), va, vb, .int .i64 a] w fun e w' => e = .returned (.bool true) ∧ Below w.heap.size w w' := by
  have hk := hL.filter fun x => (["shredcol/api.ErrBound", "shredcol/api.ErrShape", "shredcol/api.ErrKind", "shredcol/api.ErrName", "shredcol/api.ErrNone"] : List String).contains x.1
  have e : (Rows.shredSplitsRow.laid.filter fun x => (["shredcol/api.ErrBound", "shredcol/api.ErrShape", "shredcol/api.ErrKind", "shredcol/api.ErrName", "shredcol/api.ErrNone"] : List String).contains x.1) = [2, 3, 4, 5, 6].map errDatum := by rfl
  have hL' : laidMetH Tryd.prog ([2, 3, 4, 5, 6].map errDatum) w := e ▸ hk
  obtain ⟨adr, hE⟩ := errsAt_of_laidS [2, 3, 4, 5, 6] rfl (by intro k hk; simp only [List.mem_cons, List.not_mem_nil, or_false] at hk; rcases hk with rfl | rfl | rfl | rfl | rfl <;> exact ⟨by kernel_rfl, by kernel_rfl⟩) hL'
  exact splits_any n la lb a u va vb w adr hE hN hO hA h88a hDA hB h88b hDB ha0 ha1
end Go.Proofs.YtkmhmnffbgedgaaDoor
