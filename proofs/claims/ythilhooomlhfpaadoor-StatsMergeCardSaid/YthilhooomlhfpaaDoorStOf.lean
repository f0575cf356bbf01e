/- The walk of stats.Of; the closed fact two. -/
import Derived.Test.YthilhooomlhfpaaDoorKnown
import Derived.Test.YthilhooomlhfpaaDoorCol4
namespace Go.Proofs.YthilhooomlhfpaaDoor
set_option linter.unusedVariables false
open Go Go.RowKit Go.ChangeShapes

theorem IsErr.other {w w' : World} {adr : Nat → Addr} {e : GErr} {v : Value} {g : Nat} {cs : Array Value} {t : TypeId} (h : IsErr w adr e v) (hg : w.heap[g]? = some (.cells cs t (0, 0))) (h1 : ∀ T a, cs[1]? ≠ some (.iface T a))
    (ho : ∀ i, i ≠ g → w'.heap[i]? = w.heap[i]?) : IsErr w' adr e v := by
  cases e with
  | nil => exact h
  | sent k => exact h
  | fault k p =>
    obtain ⟨a1, a2, b, h3, h4, h5⟩ := h
    have hb : b ≠ g := by
      rintro rfl
      rw [rowc hg] at h5
      exact h1 _ _ h5
    have hc : ∀ j, w'.cell? ⟨b, j, none⟩ = w.cell? ⟨b, j, none⟩ := fun j => by simp [World.cell?, ho b hb]
    exact ⟨a1, a2, b, h3, (hc 0).trans h4, (hc 1).trans h5⟩

def ofSt (f : Lf) (c : Col) : St := match colErr f c false with
  | .nil => knownSt c
  | _ => St.none

set_option maxRecDepth 100000 in
set_option maxHeartbeats 4000000 in
theorem of_nil (f : Lf) (c : Col) (vf vc : Value) (w : World) (adr : Nat → Addr) (hE : ErrsAt w adr [3, 4]) (hf : IsLf w vf f) (hc : IsCol w vc c) (fo : f.Ok) (co : c.Ok) (hn : colErr f c false = .nil) :
    Calls Tryd.prog 14 #[vf, vc] w fun e w' => e = .returned (.tuple #[.agg (stA (knownSt c)), .nilIface]) ∧ Below w.heap.size w w' := by
  obtain ⟨p, rfl, hp⟩ := hf
  obtain ⟨a, b, d, rfl, ha, hb, hd⟩ := hc
  have HE := Lib.hid hE; have Hp := Lib.hid hp; have Ha := Lib.hid ha; have Hb := Lib.hid hb; have Hd := Lib.hid hd; have HN := Lib.hid hn
  have HK := Lib.hid (fun (w1 : World) (h : Below w.heap.size w w1) => ck_any f c false (.agg (lfA f p)) (.agg (colA c a b d)) w1 adr (HE.out.below h) ⟨p, rfl, Hp.out.below h (Nat.le_refl _)⟩ ⟨a, b, d, rfl, Ha.out.below h (Nat.le_refl _), Hb.out.below h (Nat.le_refl _), Hd.out.below h (Nat.le_refl _)⟩ fo co)
  have HS := Lib.hid (fun (w1 : World) (h : Below w.heap.size w w1) => knownS_any c (.agg (colA c a b d)) w1 ⟨a, b, d, rfl, Ha.out.below h (Nat.le_refl _), Hb.out.below h (Nat.le_refl _), Hd.out.below h (Nat.le_refl _)⟩ co)
  clear hE hp ha hb hd hn
  unfold lfA colA at HK
  unfold colA at HS
  unfold lfA colA
  go_enter Tryd.func14, Tryd.ntmps14
  go_wp2_with fail
  refine (HK.out _ ((((Below.refl _ _).alloc (Nat.le_refl _) _).alloc (by simp) _).alloc (by simp; omega) _)).mono ?_; rintro e w1 ⟨⟨u, rfl, hu⟩, hb1⟩
  rw [HN.out] at hu
  obtain rfl : u = .nilIface := hu
  obtain ⟨rA, rB, rR, hbw, hz⟩ := rows3 hb1
  have cB := rowc rB; have RR := Lib.hid rR; have Hbw := Lib.hid hbw
  clear hb1 rA rB rR hbw
  go_wp2_with fail
  refine (HS.out _ Hbw.out).mono ?_; rintro e w2 ⟨rfl, hb2⟩
  have RR2 := Lib.hid (row_keep hb2 RR.out); have Hbw2 := Lib.hid (Hbw.out.trans (hb2.mono Hbw.out.size))
  clear hb2 cB
  go_wp2_with (refine wpList_store_part rfl 36 _ _ rfl (w.heap.size + 1 + 1) 0 _ 36 (stA (knownSt c)) rfl rfl RR2.out (by kernel_rfl) (stA_one _) (Nat.le_of_ble_eq_true rfl) (stA (knownSt c)) rfl ?_; intro w5 rR5 hoth hbl hsz5; have hbw5 := Lib.hid (Hbw2.out.trans (hbl.mono (by omega))); have RR5 := Lib.hid rR5; clear hoth hbl hsz5 rR5)
  refine bodyPost_ret (v := .tuple #[.agg (stA (knownSt c)), .nilIface]) (results_row_tmp Tryd.results14 _ _ (w.heap.size + 1 + 1) 36 _ (0, 0) _ rfl RR5.out Tryd.underlying36 rfl (by kernel_rfl)) rfl ⟨rfl, hbw5.out⟩

set_option maxRecDepth 100000 in
set_option maxHeartbeats 4000000 in
theorem of_err (f : Lf) (c : Col) (vf vc : Value) (w : World) (adr : Nat → Addr) (hE : ErrsAt w adr [3, 4]) (hf : IsLf w vf f) (hc : IsCol w vc c) (fo : f.Ok) (co : c.Ok) (hn : colErr f c false ≠ .nil) :
    Calls Tryd.prog 14 #[vf, vc] w fun e w' => (∃ u, e = .returned (.tuple #[.agg (stA St.none), u]) ∧ IsErr w' adr (colErr f c false) u) ∧ Below w.heap.size w w' := by
  obtain ⟨p, rfl, hp⟩ := hf
  obtain ⟨a, b, d, rfl, ha, hb, hd⟩ := hc
  have HE := Lib.hid hE; have Hp := Lib.hid hp; have Ha := Lib.hid ha; have Hb := Lib.hid hb; have Hd := Lib.hid hd; have HN := Lib.hid hn
  have HK := Lib.hid (fun (w1 : World) (h : Below w.heap.size w w1) => ck_any f c false (.agg (lfA f p)) (.agg (colA c a b d)) w1 adr (HE.out.below h) ⟨p, rfl, Hp.out.below h (Nat.le_refl _)⟩ ⟨a, b, d, rfl, Ha.out.below h (Nat.le_refl _), Hb.out.below h (Nat.le_refl _), Hd.out.below h (Nat.le_refl _)⟩ fo co)
  clear hE hp ha hb hd hn
  unfold lfA colA at HK
  unfold lfA colA
  go_enter Tryd.func14, Tryd.ntmps14
  go_wp2_with fail
  refine (HK.out _ ((((Below.refl _ _).alloc (Nat.le_refl _) _).alloc (by simp) _).alloc (by simp; omega) _)).mono ?_; rintro e w1 ⟨⟨u, rfl, hu⟩, hb1⟩
  obtain ⟨rA, rB, rR, hbw, hz⟩ := rows3 hb1
  have RR := Lib.hid rR; have Hbw := Lib.hid hbw; have HU := Lib.hid hu
  obtain ⟨T, ad, rfl, hT⟩ := hu.some' HN.out
  clear hb1 rA rB rR hbw hu
  rcases hT with rfl | rfl
  all_goals
    go_wp2_with (refine wpList_store_part rfl 36 _ _ rfl (w.heap.size + 1 + 1) 0 _ 36 (stA St.none) rfl rfl RR.out (by kernel_rfl) (stA_one _) (Nat.le_of_ble_eq_true rfl) (stA St.none) rfl ?_; intro w5 rR5 hoth hbl hsz5; have hbw5 := Lib.hid (Hbw.out.trans (hbl.mono (by omega))); have RR5 := Lib.hid rR5; have HU5 := Lib.hid (HU.out.other RR.out (by intro T a h; cases h) hoth); clear hoth hbl hsz5 rR5)
    refine bodyPost_ret (v := .tuple #[.agg (stA St.none), _]) (results_row_tmp Tryd.results14 _ _ (w.heap.size + 1 + 1) 36 _ (0, 0) _ rfl RR5.out Tryd.underlying36 rfl (by kernel_rfl)) rfl ⟨⟨_, rfl, HU5.out⟩, hbw5.out⟩
end Go.Proofs.YthilhooomlhfpaaDoor
