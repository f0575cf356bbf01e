/- The walk of page.Write. -/
import Derived.Test.YtpbkmfnfcdhhjaaGreatDoorPg2
namespace Go.Proofs.YtpbkmfnfcdhhjaaGreatDoor
set_option linter.unusedVariables false
open Go Go.RowKit Go.ChangeShapes

/-- what Write says of a column -/
def writeErr (f : Lf) (c : Col) : GErr := match colErr f c false with
  | .nil => if c.rep = [] then .sent 3 else .nil
  | e => e

set_option maxRecDepth 100000 in
set_option maxHeartbeats 4000000 in
theorem write_bad (f : Lf) (c : Col) (vf vc : Value) (w : World) (adr : Nat → Addr) (hE : ErrsAt w adr [3, 4]) (hf : IsLf w vf f) (hc : IsCol w vc c) (fo : f.Ok) (co : c.Ok) (hn : colErr f c false ≠ .nil) :
    Calls Tryz.prog 14 #[vf, vc] w fun e w' => (∃ u, e = .returned (.tuple #[.string ⟨#[]⟩, u]) ∧ IsErr w' adr (colErr f c false) u) ∧ Below w.heap.size w w' := by
  obtain ⟨p, rfl, hp⟩ := hf
  obtain ⟨a, b, d, rfl, ha, hb, hd⟩ := hc
  have HE := Lib.hid hE; have Hp := Lib.hid hp; have Ha := Lib.hid ha; have Hb := Lib.hid hb; have Hd := Lib.hid hd; have HN := Lib.hid hn
  have HK := Lib.hid (fun (w1 : World) (h : Below w.heap.size w w1) => ck_any f c false (.agg (lfA f p)) (.agg (colA c a b d)) w1 adr (HE.out.below h) ⟨p, rfl, Hp.out.below h (Nat.le_refl _)⟩ ⟨a, b, d, rfl, Ha.out.below h (Nat.le_refl _), Hb.out.below h (Nat.le_refl _), Hd.out.below h (Nat.le_refl _)⟩ fo co)
  clear hE hp ha hb hd hn
  unfold lfA colA at HK
  unfold lfA colA
  go_enter Tryz.func14, Tryz.ntmps14
  go_wp2_with fail
  refine (HK.out _ (((Below.refl _ _).alloc (Nat.le_refl _) _).alloc (by simp) _)).mono ?_; rintro e w1 ⟨⟨u, rfl, hu⟩, hb1⟩
  obtain ⟨rA, rB, hbw, hz⟩ := rows2 hb1
  have Hbw := Lib.hid hbw; have HU := Lib.hid hu
  obtain ⟨T, ad, rfl, hT⟩ := hu.some' HN.out
  clear hb1 rA rB hbw hu
  rcases hT with rfl | rfl
  all_goals
    go_wp2_with fail
    go_ret2
    exact ⟨⟨_, rfl, HU.out⟩, Hbw.out⟩

set_option maxRecDepth 100000 in
set_option maxHeartbeats 4000000 in
theorem write_none (f : Lf) (c : Col) (vf vc : Value) (w : World) (adr : Nat → Addr) (hE : ErrsAt w adr [3, 4]) (hf : IsLf w vf f) (hc : IsCol w vc c) (fo : f.Ok) (co : c.Ok) (hn : colErr f c false = .nil) (h0 : c.rep = []) :
    Calls Tryz.prog 14 #[vf, vc] w fun e w' => e = .returned (.tuple #[.string ⟨#[]⟩, .iface 247 (.pointer (some (adr 3)))]) ∧ Below w.heap.size w w' := by
  obtain ⟨p, rfl, hp⟩ := hf
  obtain ⟨a, b, d, rfl, ha, hb, hd⟩ := hc
  have HE := Lib.hid hE; have Hp := Lib.hid hp; have Ha := Lib.hid ha; have Hb := Lib.hid hb; have Hd := Lib.hid hd; have HN := Lib.hid hn
  have HK := Lib.hid (fun (w1 : World) (h : Below w.heap.size w w1) => ck_any f c false (.agg (lfA f p)) (.agg (colA c a b d)) w1 adr (HE.out.below h) ⟨p, rfl, Hp.out.below h (Nat.le_refl _)⟩ ⟨a, b, d, rfl, Ha.out.below h (Nat.le_refl _), Hb.out.below h (Nat.le_refl _), Hd.out.below h (Nat.le_refl _)⟩ fo co)
  obtain ⟨a1, q1, rfl⟩ := ha.form
  rw [h0] at HK ⊢
  clear hE hp ha hb hd hn
  unfold lfA colA at HK
  unfold lfA colA
  simp only [List.length_nil] at HK ⊢
  go_enter Tryz.func14, Tryz.ntmps14
  go_wp2_with fail
  refine (HK.out _ (((Below.refl _ _).alloc (Nat.le_refl _) _).alloc (by simp) _)).mono ?_; rintro e w1 ⟨⟨u, rfl, hu⟩, hb1⟩
  rw [HN.out] at hu
  obtain rfl : u = .nilIface := hu
  obtain ⟨rA, rB, hbw, hz⟩ := rows2 hb1
  have cA := rowc rA; have cB := rowc rB; have Hbw := Lib.hid hbw
  have e3 : w1.cell? ⟨0, 0, none⟩ = some (.iface 247 (.pointer (some (adr 3)))) := (HE.out.below hbw).cell 3 (by decide)
  clear hb1 rA rB hbw
  go_wp2_with fail
  go_quiet (fail)
  go_wp2_with fail
  go_ret2
  exact ⟨rfl, below_drewN Hbw.out _⟩

set_option maxRecDepth 100000 in
set_option maxHeartbeats 4000000 in
theorem write_ok (f : Lf) (c : Col) (vf vc : Value) (w : World) (adr : Nat → Addr) (hE : ErrsAt w adr [2, 3, 4]) (hf : IsLf w vf f) (hc : IsCol w vc c) (hcap : CapCol vc) (fo : f.Ok) (co : c.Ok) (hn : colErr f c false = .nil) (h0 : c.rep ≠ []) (hl : c.rep.length ≤ 1000) :
    Calls Tryz.prog 14 #[vf, vc] w fun e w' => e = .returned (.tuple #[.string ⟨(pageB f c).toArray⟩, .nilIface]) ∧ Below w.heap.size w w' := by
  obtain ⟨p, rfl, hp⟩ := hf
  obtain ⟨a, b, d, rfl, ha, hb, hd⟩ := hc
  have HE := Lib.hid hE; have Hp := Lib.hid hp; have Ha := Lib.hid ha; have Hb := Lib.hid hb; have Hd := Lib.hid hd; have HN := Lib.hid hn
  have HK := Lib.hid (fun (w1 : World) (h : Below w.heap.size w w1) => ck_any f c false (.agg (lfA f p)) (.agg (colA c a b d)) w1 adr ((HE.out.sub (by decide)).below h) ⟨p, rfl, Hp.out.below h (Nat.le_refl _)⟩ ⟨a, b, d, rfl, Ha.out.below h (Nat.le_refl _), Hb.out.below h (Nat.le_refl _), Hd.out.below h (Nat.le_refl _)⟩ fo co)
  have HPt := Lib.hid (fun (w1 : World) (h : Below w.heap.size w w1) => pagePut_any f c (.agg (lfA f p)) (.agg (colA c a b d)) w1 adr ((HE.out.sub (by decide)).below h) ⟨p, rfl, Hp.out.below h (Nat.le_refl _)⟩ ⟨a, b, d, rfl, Ha.out.below h (Nat.le_refl _), Hb.out.below h (Nat.le_refl _), Hd.out.below h (Nat.le_refl _)⟩ hcap fo co (right_of hn).1 hl)
  obtain ⟨a1, q1, rfl⟩ := ha.form
  have hpos : 0 < c.rep.length := List.length_pos_iff.2 h0
  have hp0 : ((c.rep.length : Int) == 0) = false := by rw [beq_eq_false_iff_ne]; omega
  have hp1 : ¬ (20000 : Int) < (c.rep.length : Int) := by omega
  clear hE hp ha hb hd hn hcap h0
  unfold lfA colA at HK HPt
  unfold lfA colA
  generalize c.rep.length = n at *
  go_enter Tryz.func14, Tryz.ntmps14
  go_wp2_with fail
  refine (HK.out _ (((Below.refl _ _).alloc (Nat.le_refl _) _).alloc (by simp) _)).mono ?_; rintro e w1 ⟨⟨u, rfl, hu⟩, hb1⟩
  rw [HN.out] at hu
  obtain rfl : u = .nilIface := hu
  obtain ⟨rA, rB, hbw, hz⟩ := rows2 hb1
  have cA := rowc rA; have cB := rowc rB; have Hbw := Lib.hid hbw
  clear hb1 rA rB hbw
  go_wp2_with fail
  refine (HPt.out _ Hbw.out).mono ?_; rintro e w2 ⟨rfl, hb2⟩
  replace Hbw := Lib.hid (Hbw.out.trans (hb2.mono Hbw.out.size))
  clear hb2 cA cB
  go_wp2_with fail
  go_ret2
  exact ⟨rfl, Hbw.out⟩
end Go.Proofs.YtpbkmfnfcdhhjaaGreatDoor
