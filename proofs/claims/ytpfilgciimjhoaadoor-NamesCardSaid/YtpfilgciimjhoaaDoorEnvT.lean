/- The errors' texts, out of the row's list of variables; plain.Code at another error. -/
import Derived.Test.YtpfilgciimjhoaaDoorEnv
namespace Go.Proofs.YtpfilgciimjhoaaDoor
set_option linter.unusedVariables false
open Go Go.RowKit Go.ChangeShapes

theorem texts_of_vars {P : Program} {W : World} {nm : String} {ti tp te ts : TypeId} {ms : Array (String × TypeId)} {f : Field}
    (hi : P.underlying ti = some (.interface ms)) (hrow : ∀ u, P.typeName? 3 u = some nm → u = tp)
    (hp : P.underlying tp = some (.pointer te)) (he : P.underlying te = some (.struct #[f])) (hft : f.type = ts) (hfo : f.offset = 0) (hs : P.underlying ts = some .string) (hc : P.cellsOf te = 1) (hcs : P.cellsOf ts = 1) :
    ∀ (l : List (String × List UInt8 × Nat)) (ps : List MemPlace), (∀ x ∈ l, P.globalNamed x.1 = some x.2.2 ∧ (P.globals[x.2.2]?).map (·.type) = some ti) →
      DataW.LaidVars P W (l.map fun x => (x.1, .iface nm (.ptr (.agg [.lit (.string x.2.1)])))) ps →
      (∀ b off, MemPlace.cell b off ∈ ps → (∃ c t, W.heap[b]? = some (.cells c t (0, 0))) ∧ ∀ u v, W.cell? ⟨b, off, none⟩ = some (.iface u v) → Value.okWide P W .any 0 u v) →
      ∀ x ∈ l, ∃ a, W.cell? ⟨x.2.2, 0, none⟩ = some (.iface tp (.pointer (some a))) ∧ W.cell? a = some (.string ⟨x.2.1.toArray⟩) := by
  intro l
  induction l with
  | nil => intro ps _ _ _ x hx; cases hx
  | cons x l ih =>
    intro ps hx hv hrows
    obtain ⟨n, text, g⟩ := x
    obtain ⟨hg, ht⟩ := hx _ (List.mem_cons_self ..)
    obtain ⟨g0, t0, cs0, f0, p0, q0, hg0, ht0, hv0, hd0, hq, e0⟩ := hv
    obtain rfl := Option.some.inj (hg.symm.trans hg0)
    obtain rfl := Option.some.inj (ht.symm.trans ht0)
    subst e0
    obtain ⟨l0⟩ := cs0
    have ok0 : ∀ u v, l0 = [.iface u v] → Value.okWide P W .any 0 u v := fun u v e => by
      subst e
      exact (hrows g 0 (by simp [MemPlace.row])).2 u v (by simpa using World.var?_cell hg0 hv0 0)
    obtain ⟨a0, s0, rfl, hc0, hs0, hz0, rfl⟩ := errorString_of_trod hi hrow hp he hft hfo hs hc hcs hd0 ok0
    have h1 := ih q0 (fun y hy => hx y (List.mem_cons_of_mem _ hy)) hq (fun b off hm => hrows b off (List.mem_append_right _ hm))
    intro y hy
    rcases List.mem_cons.1 hy with rfl | hy
    · exact ⟨a0, by simpa using World.var?_cell hg0 hv0 0, by rw [hc0, ← hs0]⟩
    · exact h1 y hy
/-- the errors' environment with their texts -/
theorem env_texts {W : World} (h : laidMetH Tryd.prog fullLaid W) : ∃ adr, ErrEnv W adr ∧ ∀ k, 1 ≤ k → k ≤ 8 → W.cell? (adr k) = some (.string ⟨(errText k).toArray⟩) := by
  obtain ⟨adr, hE⟩ := env_of_laid h
  refine ⟨adr, hE, fun k h1 h8 => ?_⟩
  obtain ⟨hl, hh⟩ := laid_split h
  obtain ⟨ps, hv, hnd, hrows⟩ := hl
  have ht := texts_of_vars Tryd.underlying25 sentTypeRow Tryd.underlying40 Tryd.underlying42 rfl rfl Tryd.underlying9 cellsES cellsS [errRow 1, errRow 2, errRow 3, errRow 4, errRow 5, errRow 6, errRow 7, errRow 8] ps err_named hv hrows
  have hm : errRow k ∈ [errRow 1, errRow 2, errRow 3, errRow 4, errRow 5, errRow 6, errRow 7, errRow 8] := by
    have : k = 1 ∨ k = 2 ∨ k = 3 ∨ k = 4 ∨ k = 5 ∨ k = 6 ∨ k = 7 ∨ k = 8 := by omega
    rcases this with rfl | rfl | rfl | rfl | rfl | rfl | rfl | rfl <;> simp
  obtain ⟨a, c1, c2⟩ := ht _ hm
  have e : some (Value.iface 40 (.pointer (some (adr k)))) = some (.iface 40 (.pointer (some a))) := (hE.cell k h1 h8).symm.trans c1
  have e2 : adr k = a := by
    injection e with e
    injection e with _ e
    injection e with e
    injection e with e
  rw [e2]
  exact c2

set_option maxRecDepth 100000 in
set_option maxHeartbeats 1000000 in
theorem code_other (a : Addr) (w : World) (adr : Nat → Addr) (hE : ErrEnv w adr) (ha : ∃ c t, w.heap[a.block]? = some (.cells c t (0, 0))) (hne : ∀ k, 1 ≤ k → k ≤ 8 → a ≠ adr k) :
    Calls Tryd.prog 5 #[.iface 40 (.pointer (some a))] w fun e w' => e = .returned (.tuple #[.int .i64 (-1), .int .i64 (-1)]) ∧ Below w.heap.size w w' := by
  go_enter Tryd.func5, Tryd.ntmps5
  go_wp2_with fail
  refine (as_miss _ _ _ _ ((hE.below ((Below.refl _ _).alloc (Nat.le_refl _) _)).handle) (by simp [go_sem]; rfl)).mono ?_
  rintro e w1 ⟨rfl, hb1⟩
  have hb : Below w.heap.size w w1 := ((Below.refl w.heap.size w).alloc (Nat.le_refl _) _).trans (hb1.mono (by simp))
  clear hb1
  have hE1 := hE.below hb
  have e1 : w1.cell? ⟨0, 0, none⟩ = _ := hE1.cell 1 (by decide) (by decide)
  have e2 : w1.cell? ⟨1, 0, none⟩ = _ := hE1.cell 2 (by decide) (by decide)
  have e3 : w1.cell? ⟨2, 0, none⟩ = _ := hE1.cell 3 (by decide) (by decide)
  have e4 : w1.cell? ⟨3, 0, none⟩ = _ := hE1.cell 4 (by decide) (by decide)
  have e5 : w1.cell? ⟨4, 0, none⟩ = _ := hE1.cell 5 (by decide) (by decide)
  have e6 : w1.cell? ⟨5, 0, none⟩ = _ := hE1.cell 6 (by decide) (by decide)
  have e7 : w1.cell? ⟨6, 0, none⟩ = _ := hE1.cell 7 (by decide) (by decide)
  have e8 : w1.cell? ⟨7, 0, none⟩ = _ := hE1.cell 8 (by decide) (by decide)
  go_wp2_with fail
  clear e1 e2 e3 e4 e5 e6 e7 e8
  have hcells : ∀ i : Nat, i < 8 → (w1.alloc (.cells #[.iface 40 (.pointer (some (adr 1))), .iface 40 (.pointer (some (adr 2))), .iface 40 (.pointer (some (adr 3))), .iface 40 (.pointer (some (adr 4))), .iface 40 (.pointer (some (adr 5))), .iface 40 (.pointer (some (adr 6))), .iface 40 (.pointer (some (adr 7))), .iface 40 (.pointer (some (adr 8)))] 25)).cell? ⟨w1.heap.size, i, none⟩ = some (.iface 40 (.pointer (some (adr (i + 1))))) := by
    intro i hi
    rw [World.cell?_alloc_at _ _ _ _ rfl]
    match i, hi with
    | 0, _ => rfl
    | 1, _ => rfl
    | 2, _ => rfl
    | 3, _ => rfl
    | 4, _ => rfl
    | 5, _ => rfl
    | 6, _ => rfl
    | 7, _ => rfl
  have hE2 := hE1.below ((Below.refl _ _).alloc (Nat.le_refl _) (.cells #[.iface 40 (.pointer (some (adr 1))), .iface 40 (.pointer (some (adr 2))), .iface 40 (.pointer (some (adr 3))), .iface 40 (.pointer (some (adr 4))), .iface 40 (.pointer (some (adr 5))), .iface 40 (.pointer (some (adr 6))), .iface 40 (.pointer (some (adr 7))), .iface 40 (.pointer (some (adr 8)))] 25))
  have hb2 := hb.alloc hb.size (.cells #[.iface 40 (.pointer (some (adr 1))), .iface 40 (.pointer (some (adr 2))), .iface 40 (.pointer (some (adr 3))), .iface 40 (.pointer (some (adr 4))), .iface 40 (.pointer (some (adr 5))), .iface 40 (.pointer (some (adr 6))), .iface 40 (.pointer (some (adr 7))), .iface 40 (.pointer (some (adr 8)))] 25)

  generalize (w1.alloc (.cells #[.iface 40 (.pointer (some (adr 1))), .iface 40 (.pointer (some (adr 2))), .iface 40 (.pointer (some (adr 3))), .iface 40 (.pointer (some (adr 4))), .iface 40 (.pointer (some (adr 5))), .iface 40 (.pointer (some (adr 6))), .iface 40 (.pointer (some (adr 7))), .iface 40 (.pointer (some (adr 8)))] 25)) = w3 at *
  have HC := Lib.hid hcells; clear hcells
  have ha3 : ∃ c t, w3.heap[a.block]? = some (.cells c t (0, 0)) := by
    obtain ⟨c, t, h⟩ := ha
    exact ⟨c, t, (hb2.block _ (Array.getElem?_eq_some_iff.1 h).1).trans h⟩
  obtain ⟨ca, ta, hca⟩ := ha3
  have Hca := Lib.hid hca; have Hne := Lib.hid hne; have HE2 := Lib.hid hE2
  clear hca hne ha hE2
  go_loop [3, 26] (fun pv i => ∃ m : Nat, m ≤ 8 ∧ i = .int .i64 m ∧ pv = .int .i64 (-1)) (fun _ i => 8 - (intOf i).toNat)
  case atStart => exact ⟨0, by omega, rfl, rfl⟩
  case round =>
    obtain ⟨m, hm, rfl, rfl⟩ := hrel
    by_cases hlt : m < 8
    · have hc := HC.out m hlt
      obtain ⟨cb, tb, hcb⟩ := HE2.out.blk (m + 1) (by omega) (by omega)
      have HI := Lib.hid (is_other a (adr (m + 1)) ca cb ta tb w3 (Hne.out (m + 1) (by omega) (by omega)) Hca.out hcb)
      clear hcb
      go_wp2_with fail
      refine HI.out.mono ?_
      rintro e w4 ⟨rfl, rfl⟩
      go_wp2_with fail
      go_round
      case rel => exact ⟨m + 1, by omega, by go_num, rfl⟩
      case measure => simp [intOf]; omega
    · obtain rfl : m = 8 := by omega
      go_wp2_with fail
      go_ret2
      exact ⟨rfl, hb2⟩
end Go.Proofs.YtpfilgciimjhoaaDoor
