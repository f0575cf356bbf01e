/- What the listed package-level variables give a walk: each sentinel's variable holds a pointer of its own. -/
import Derived.Test.YthilhooomlhfpaaDoorK
import Derived.Test.YthilhooomlhfpaaDoorRows
import Derived.LaidLaws
import Derived.LaidHandle
import Derived.Stop.LaidErr
namespace Go.Proofs.YthilhooomlhfpaaDoor
open Go Go.RowKit Go.ChangeShapes

/-- each variable of the list gs holds the pointer that stands at its place in the list; behind it lies a block of cells -/
def SentsAt (T : TypeId) (W : World) : List Nat → List Addr → Prop
  | [], [] => True
  | g :: gs, a :: ads => W.cell? ⟨g, 0, none⟩ = some (.iface T (.pointer (some a))) ∧ (∃ c t, W.heap[a.block]? = some (.cells c t (0, 0))) ∧ SentsAt T W gs ads
  | _, _ => False

theorem sents_of_vars {P : Program} {W : World} {nm : String} {ti tp te ts : TypeId} {ms : Array (String × TypeId)} {f : Field}
    (hi : P.underlying ti = some (.interface ms)) (hrow : ∀ u, P.typeName? 3 u = some nm → u = tp)
    (hp : P.underlying tp = some (.pointer te)) (he : P.underlying te = some (.struct #[f])) (hft : f.type = ts) (hfo : f.offset = 0) (hs : P.underlying ts = some .string) (hc : P.cellsOf te = 1) (hcs : P.cellsOf ts = 1) :
    ∀ (l : List (String × List UInt8 × Nat)) (ps : List MemPlace), (∀ x ∈ l, P.globalNamed x.1 = some x.2.2 ∧ (P.globals[x.2.2]?).map (·.type) = some ti) →
      DataW.LaidVars P W (l.map fun x => (x.1, .iface nm (.ptr (.agg [.lit (.string x.2.1)])))) ps →
      (∀ b off, MemPlace.cell b off ∈ ps → (∃ c t, W.heap[b]? = some (.cells c t (0, 0))) ∧ ∀ u v, W.cell? ⟨b, off, none⟩ = some (.iface u v) → Value.okWide P W .any 0 u v) →
      ∃ ads, SentsAt tp W (l.map (·.2.2)) ads ∧ (∀ a ∈ ads, MemPlace.cell a.block a.off ∈ ps) ∧ (ps.Nodup → ads.Nodup) := by
  intro l
  induction l with
  | nil => intro ps _ _ _; exact ⟨[], trivial, by simp, by simp⟩
  | cons x l ih =>
    intro ps hx hv hrows
    obtain ⟨n, text, g⟩ := x
    obtain ⟨hg, ht⟩ := hx _ (List.mem_cons_self ..)
    obtain ⟨g0, t0, cs0, f0, p0, q0, hg0, ht0, hv0, hd0, hq, e0⟩ := hv
    obtain rfl := Option.some.inj (hg.symm.trans hg0)
    obtain rfl := Option.some.inj (ht.symm.trans ht0)
    subst e0
    obtain ⟨l0⟩ := cs0
    have ok0 : ∀ u v, l0 = [.iface u v] → Value.okWide P W .any 0 u v := fun u v e => by
      subst e
      exact (hrows g 0 (by simp [MemPlace.row])).2 u v (by simpa using World.var?_cell hg0 hv0 0)
    obtain ⟨a0, s0, rfl, hc0, hs0, hz0, rfl⟩ := errorString_of_trod hi hrow hp he hft hfo hs hc hcs hd0 ok0
    obtain ⟨ads, h1, h2, h3⟩ := ih q0 (fun y hy => hx y (List.mem_cons_of_mem _ hy)) hq (fun b off hm => hrows b off (List.mem_append_right _ hm))
    refine ⟨a0 :: ads, ⟨?_, ?_, h1⟩, ?_, ?_⟩
    · simpa using World.var?_cell hg0 hv0 0
    · exact (hrows a0.block a0.off (by simp [MemPlace.row])).1
    · intro a ha
      rcases List.mem_cons.1 ha with rfl | ha
      · simp [MemPlace.row]
      · exact List.mem_append_right _ (h2 a ha)
    · intro hnd
      rw [List.nodup_append] at hnd
      refine List.nodup_cons.2 ⟨fun hm => ?_, h3 hnd.2.1⟩
      exact hnd.2.2 _ (by simp [MemPlace.row]) _ (h2 a0 hm) rfl

theorem SentsAt.below {T : TypeId} {w w' : World} (hb : Below w.heap.size w w') : ∀ {gs ads}, SentsAt T w gs ads → SentsAt T w' gs ads
  | [], [], _ => trivial
  | _ :: _, _ :: _, ⟨h1, ⟨c, t, h2⟩, h3⟩ => ⟨(hb.cell (block_lt_of_cell h1)).trans h1, ⟨c, t, (hb.block _ (Array.getElem?_eq_some_iff.1 h2).1).trans h2⟩, h3.below hb⟩
  | [], _ :: _, h => h.elim
  | _ :: _, [], h => h.elim

theorem sentTypeRow : ∀ u, Tryd.prog.typeName? 3 u = some "*errors.errorString" → u = 232 := fun u h =>
  typeName_ptr_named (nm := "errors.errorString") (by rw [show "*" ++ "errors.errorString" = "*errors.errorString" by rfl]; kernel_rfl) (by kernel_rfl) (by decide) u (by rw [show "*" ++ "errors.errorString" = "*errors.errorString" by rfl]; exact h)
theorem cellsES : Tryd.prog.cellsOf 250 = 1 := by kernel_rfl
theorem cellsS : Tryd.prog.cellsOf 9 = 1 := by kernel_rfl

/-- the condition on a list of sentinels, opened -/
theorem sents_of_laid {W : World} (l : List (String × List UInt8 × Nat)) (hl : ∀ x ∈ l, Tryd.prog.globalNamed x.1 = some x.2.2 ∧ (Tryd.prog.globals[x.2.2]?).map (·.type) = some 38)
    (h : laidMet Tryd.prog (l.map fun x => (x.1, .iface "*errors.errorString" (.ptr (.agg [.lit (.string x.2.1)])))) W) :
    ∃ ads, SentsAt 232 W (l.map (·.2.2)) ads ∧ ads.Nodup := by
  obtain ⟨ps, hv, hnd, hrows⟩ := h
  obtain ⟨ads, h1, _, h3⟩ := sents_of_vars Tryd.underlying38 sentTypeRow Tryd.underlying232 Tryd.underlying250 rfl rfl Tryd.underlying9 cellsES cellsS l ps hl hv hrows
  exact ⟨ads, h1, h3 hnd⟩
end Go.Proofs.YthilhooomlhfpaaDoor
