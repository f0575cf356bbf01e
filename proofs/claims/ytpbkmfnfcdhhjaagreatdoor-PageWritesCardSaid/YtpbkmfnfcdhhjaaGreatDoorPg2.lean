/- The walk of page.Put. -/
import Derived.Test.YtpbkmfnfcdhhjaaGreatDoorPg1
import Derived.Test.YtpbkmfnfcdhhjaaGreatDoorMWire
import Derived.Test.YtpbkmfnfcdhhjaaGreatDoorMBits
import Derived.Test.YtpbkmfnfcdhhjaaGreatDoorRegC
import Derived.Deep.RegionHeld3
import Derived.Deep.DeepCutAuto
namespace Go.Proofs.YtpbkmfnfcdhhjaaGreatDoor
set_option linter.unusedVariables false
open Go Go.RowKit Go.ChangeShapes

/-- a column whose levels lie in slices with room -/
def CapCol (v : Value) : Prop := ∀ i a b d, v = .agg #[i, a, b, d] → Capped a ∧ Capped b

set_option maxRecDepth 100000 in
set_option maxHeartbeats 16000000 in
theorem pagePut_any (f : Lf) (c : Col) (vf vc : Value) (w : World) (adr : Nat → Addr) (hE : ErrsAt w adr [2, 4]) (hf : IsLf w vf f) (hc : IsCol w vc c) (hcap : CapCol vc) (fo : f.Ok) (co : c.Ok) (hr : Right f c) (hl : c.rep.length ≤ 1000) :
    Calls Tryz.prog 38 #[vf, vc] w fun e w' => e = .returned (.string ⟨(pageB f c).toArray⟩) ∧ Below w.heap.size w w' := by
  obtain ⟨p, rfl, hp⟩ := hf
  obtain ⟨a, b, d, rfl, ha, hb, hd⟩ := hc
  obtain ⟨ca, cb⟩ := hcap _ _ _ _ rfl
  have hl2 : c.df.length ≤ 1000 := by rw [← hr.len]; exact hl
  have hv : c.vals.length ≤ 1000 := Nat.le_trans hr.vals_le hl
  obtain ⟨z1, z2, z3, z4, z5, z6, z7, z8⟩ := body_len co hr hl
  obtain ⟨ko, k1, k2⟩ := knownSt_ok co hr (by omega)
  have hw1 := lwd_le hr.r0 hr.r40
  have hw2 := lwd_le hr.d0 hr.d40
  obtain ⟨c0, c3⟩ := bestB_fst f.kind c.vals
  have HW1 := Lib.hid (fun w1 => show Calls Tryz.prog 74 #[.int .i64 f.mr] w1 fun e w' => e = .returned (.int .i64 ((lwd f.mr : Nat) : Int)) ∧ w' = w1 from width_any f.mr fo.r0 fo.r1 w1)
  have HW2 := Lib.hid (fun w1 => show Calls Tryz.prog 74 #[.int .i64 f.md] w1 fun e w' => e = .returned (.int .i64 ((lwd f.md : Nat) : Int)) ∧ w' = w1 from width_any f.md fo.d0 fo.d1 w1)
  have HR1 := Lib.hid (fun (w1 : World) (h : Below w.heap.size w w1) => runs_any a (nats c.rep) (lwd f.mr) w1 (by rw [ints_nats _ (fun x hx => (hr.reps.1 x hx).1)]; exact ha.below h (Nat.le_refl _)) ca (by omega) (by rw [nats_len]; exact hl) hr.rep_lt)
  have HR2 := Lib.hid (fun (w1 : World) (h : Below w.heap.size w w1) => runs_any b (nats c.df) (lwd f.md) w1 (by rw [ints_nats _ (fun x hx => (hr.reps.2 x hx).1)]; exact hb.below h (Nat.le_refl _)) cb (by omega) (by rw [nats_len]; exact hl2) hr.df_lt)
  have HB := Lib.hid (fun (w1 : World) (h : Below w.heap.size w w1) => best_ok f.kind d c.vals w1 adr (hE.below h) (hd.below h (Nat.le_refl _)) hv co.vals.2 (hr.nil_vals (by omega)))
  have HK := Lib.hid (fun (w1 : World) (h : Below w.heap.size w w1) => knownS_any c (.agg (colA c a b d)) w1 ⟨a, b, d, rfl, ha.below h (Nat.le_refl _), hb.below h (Nat.le_refl _), hd.below h (Nat.le_refl _)⟩ co)
  have HT := Lib.hid (fun (w1 : World) (h : Below w.heap.size w w1) => text_st (knownSt c) ko (by omega) (by omega) w1 adr (hE.below h))
  have hbd : bodyB f c = stText (knownSt c) ++ (textOf (runsB (lwd f.mr) (nats c.rep) []) ++ (textOf (runsB (lwd f.md) (nats c.df) []) ++ (UInt8.ofNat (bestB f.kind c.vals).1.toNat :: textOf (bestB f.kind c.vals).2))) := rfl
  unfold lev at z1 z2
  have HX := Lib.hid (fun (l : List UInt8) (h : l.length ≤ 1000000) (w1 : World) => show Calls Tryz.prog 77 #[.string ⟨l.toArray⟩] w1 fun e w' => e = .returned (.string ⟨(textOf l).toArray⟩) ∧ Below w1.heap.size w1 w' from text_any ⟨l.toArray⟩ w1 (by show l.toArray.size ≤ _; simp; omega))
  have HS := Lib.hid (fun (w1 : World) => show Calls Tryz.prog 79 #[.string ⟨(bodyB f c).toArray⟩] w1 fun e w' => e = .returned (.int .u32 (crc (bodyB f c) : Nat)) ∧ Below w1.heap.size w1 w' from sum_any ⟨(bodyB f c).toArray⟩ w1 (by show (bodyB f c).toArray.size ≤ _; simp; omega))
  have hcr : crc (bodyB f c) < 4294967296 := crc_lt _
  have HF := Lib.hid (fun (w1 : World) => fixed_ok (crc (bodyB f c)) 4 w1 (by omega) (by decide) (by decide) (by omega))
  have HU := Lib.hid (fun (w1 : World) => show Calls Tryz.prog 80 #[.int .u64 (((bodyB f c).length : Nat) : Int)] w1 fun e w' => e = .returned (.string ⟨(seven (bodyB f c).length).toArray⟩) ∧ Below w1.heap.size w1 w' from uvarint_any _ w1 (by omega) (by omega))
  have hpg : pageB f c = 80 :: (seven (bodyB f c).length ++ (little 4 (crc (bodyB f c)) ++ bodyB f c)) := rfl
  rw [hpg]
  clear hpg hE hp ha hb hd ca cb fo co hr hl hl2 hv hw1 hw2 ko k1 k2
  unfold lfA colA at *
  generalize lwd f.mr = wd1 at *
  generalize lwd f.md = wd2 at *
  generalize runsB wd1 (nats c.rep) [] = R1 at *
  generalize runsB wd2 (nats c.df) [] = R2 at *
  generalize stText (knownSt c) = S0 at *
  -- WALK
  obtain ⟨SA, hSA⟩ : ∃ x, stA (knownSt c) = x := ⟨_, rfl⟩
  rw [hSA] at HK HT
  clear hSA
  obtain ⟨cd, hcd⟩ : ∃ x, (bestB f.kind c.vals).1 = x := ⟨_, rfl⟩
  obtain ⟨V, hV⟩ : ∃ x, (bestB f.kind c.vals).2 = x := ⟨_, rfl⟩
  rw [hcd] at c0 c3 HB hbd
  rw [hV] at z3 z8 HB hbd
  clear hcd hV
  obtain ⟨BB, hBB⟩ : ∃ x, bodyB f c = x := ⟨_, rfl⟩
  rw [hBB] at hbd HS HF HU hcr z5 ⊢
  clear hBB
  have HX1 := Lib.hid (fun w1 => HX.out R1 (by omega) w1); have HX2 := Lib.hid (fun w1 => HX.out R2 (by omega) w1); have HX3 := Lib.hid (fun w1 => HX.out V (by omega) w1)
  clear HX
  have Hbd := Lib.hid hbd
  clear hbd
  generalize textOf R1 = T1 at *
  generalize textOf R2 = T2 at *
  generalize textOf V = T3 at *
  have hw8 : IntKind.u8.wrap cd = cd := by rw [IntKind.wrap_u8]; omega
  generalize crc BB = CR at *
  obtain ⟨LL, hLL⟩ : ∃ x, little 4 CR = x := ⟨_, rfl⟩
  have hL4 : LL.length = 4 := by rw [← hLL]; exact little_len _ _
  rw [hLL] at HF ⊢
  clear hLL
  obtain ⟨LB, hLB⟩ : ∃ x, BB.length = x := ⟨_, rfl⟩
  have HLB := Lib.hid hLB
  rw [hLB] at HU z5 ⊢
  obtain ⟨SV, hSV⟩ : ∃ x, seven LB = x := ⟨_, rfl⟩
  have hSVl : SV.length ≤ 10 := by rw [← hSV]; exact seven_len (by omega)
  rw [hSV] at HU ⊢
  clear hSV hLB
  clear z6 z7 z8
  go_enter Tryz.func38, Tryz.ntmps38
  go_upto_region 1 with fail
  obtain ⟨rF, rC, hbw, hz⟩ := rows2 (w := w) (A := .cells #[.int .i64 f.id, .int .i64 f.kind, .int .i64 f.mr, .int .i64 f.md, p] 39) (B := .cells #[.int .i64 c.id, a, b, d] 27) (Below.refl _ _)
  have RF := Lib.hid rF; have RC := Lib.hid rC; have Hbw := Lib.hid hbw
  clear rF rC hbw hz
  generalize ((w.alloc (.cells #[.int .i64 f.id, .int .i64 f.kind, .int .i64 f.mr, .int .i64 f.md, p] 39)).alloc (.cells #[.int .i64 c.id, a, b, d] 27)) = w0 at *
  have cF := rowc RF.out; have cC := rowc RC.out
  go_cut [5, 6] (fun s5 s6 wx => s5 = .string ⟨R1.toArray⟩ ∧ s6 = .nilIface ∧ Below w0.heap.size w0 wx)
  case first =>
    have HB := Lib.hid (Below.refl w0.heap.size w0)
    go_region_held3 (fun w' => (∀ j, w'.cell? ⟨w.heap.size, j, none⟩ = (#[.int .i64 f.id, .int .i64 f.kind, .int .i64 f.mr, .int .i64 f.md, p] : Array Value)[j]?) ∧ (∀ j, w'.cell? ⟨w.heap.size + 1, j, none⟩ = (#[.int .i64 c.id, a, b, d] : Array Value)[j]?)) (first | (with_reducible exact ⟨rowc RF.out, rowc RC.out⟩) | (with_reducible exact ⟨rowc_drew RF.out, rowc_drew RC.out⟩) | (with_reducible exact ⟨rowc_alloc RF.out _, rowc_alloc RC.out _⟩) | (with_reducible exact ⟨rowc_alloc_drew RF.out _, rowc_alloc_drew RC.out _⟩))
      (first
      | (go_at_call 74; (with_reducible refine (HW1.out _).mono ?_); rintro e w9 ⟨rfl, rfl⟩)
      | (go_at_call 73; (with_reducible refine (HR1.out _ ?_).mono ?_); (focus (first | (with_reducible exact (Hbw.out.trans (HB.out.mono Hbw.out.size))) | (with_reducible exact (Hbw.out.trans (HB.out.mono Hbw.out.size)).drew) | (with_reducible exact (Hbw.out.trans (HB.out.mono Hbw.out.size)).alloc (Hbw.out.trans (HB.out.mono Hbw.out.size)).size _) | (with_reducible exact ((Hbw.out.trans (HB.out.mono Hbw.out.size)).alloc (Hbw.out.trans (HB.out.mono Hbw.out.size)).size _).drew))); rintro e w9 ⟨rfl, hb9⟩; (first | (with_reducible have hbs := drew_first hb9) | (have hbs := hb9)); replace RF := Lib.hid (row_keep hbs RF.out); replace RC := Lib.hid (row_keep hbs RC.out); replace HB := Lib.hid (HB.out.trans (hbs.mono HB.out.size)); clear hb9 hbs))
    all_goals (go_wp2_with fail; go_meet)
    all_goals (exact ⟨rfl, rfl, HB.out⟩)
  case rest =>
  obtain ⟨rfl, rfl, hbx⟩ := hcut
  obtain ⟨w1, rfl⟩ : ∃ w1 : World, w1 = wc := ⟨_, rfl⟩
  replace RF := Lib.hid (row_keep hbx RF.out); replace RC := Lib.hid (row_keep hbx RC.out); replace Hbw := Lib.hid (Hbw.out.trans (hbx.mono Hbw.out.size))
  clear cF cC hbx
  have cF := rowc RF.out; have cC := rowc RC.out
  go_upto_region 2 with fail
  go_cut [7, 8] (fun s5 s6 wx => s5 = .string ⟨R2.toArray⟩ ∧ s6 = .nilIface ∧ Below w1.heap.size w1 wx)
  case first =>
    have HB := Lib.hid (Below.refl w1.heap.size w1)
    go_region_held3 (fun w' => (∀ j, w'.cell? ⟨w.heap.size, j, none⟩ = (#[.int .i64 f.id, .int .i64 f.kind, .int .i64 f.mr, .int .i64 f.md, p] : Array Value)[j]?) ∧ (∀ j, w'.cell? ⟨w.heap.size + 1, j, none⟩ = (#[.int .i64 c.id, a, b, d] : Array Value)[j]?)) (first | (with_reducible exact ⟨rowc RF.out, rowc RC.out⟩) | (with_reducible exact ⟨rowc_drew RF.out, rowc_drew RC.out⟩) | (with_reducible exact ⟨rowc_alloc RF.out _, rowc_alloc RC.out _⟩) | (with_reducible exact ⟨rowc_alloc_drew RF.out _, rowc_alloc_drew RC.out _⟩))
      (first
      | (go_at_call 74; (with_reducible refine (HW2.out _).mono ?_); rintro e w9 ⟨rfl, rfl⟩)
      | (go_at_call 73; (with_reducible refine (HR2.out _ ?_).mono ?_); (focus (first | (with_reducible exact (Hbw.out.trans (HB.out.mono Hbw.out.size))) | (with_reducible exact (Hbw.out.trans (HB.out.mono Hbw.out.size)).drew) | (with_reducible exact (Hbw.out.trans (HB.out.mono Hbw.out.size)).alloc (Hbw.out.trans (HB.out.mono Hbw.out.size)).size _) | (with_reducible exact ((Hbw.out.trans (HB.out.mono Hbw.out.size)).alloc (Hbw.out.trans (HB.out.mono Hbw.out.size)).size _).drew))); rintro e w9 ⟨rfl, hb9⟩; (first | (with_reducible have hbs := drew_first hb9) | (have hbs := hb9)); replace RF := Lib.hid (row_keep hbs RF.out); replace RC := Lib.hid (row_keep hbs RC.out); replace HB := Lib.hid (HB.out.trans (hbs.mono HB.out.size)); clear hb9 hbs))
    all_goals (go_wp2_with fail; go_meet)
    all_goals (exact ⟨rfl, rfl, HB.out⟩)
  case rest =>
  obtain ⟨rfl, rfl, hbx⟩ := hcut
  obtain ⟨w2, rfl⟩ : ∃ w2 : World, w2 = wc := ⟨_, rfl⟩
  replace RF := Lib.hid (row_keep hbx RF.out); replace RC := Lib.hid (row_keep hbx RC.out); replace Hbw := Lib.hid (Hbw.out.trans (hbx.mono Hbw.out.size))
  clear cF cC hbx
  have cF := rowc RF.out; have cC := rowc RC.out
  go_wp2_with fail
  refine (HB.out _ Hbw.out).mono ?_; rintro e w3 ⟨rfl, hb3⟩
  replace RF := Lib.hid (row_keep hb3 RF.out); replace RC := Lib.hid (row_keep hb3 RC.out); replace Hbw := Lib.hid (Hbw.out.trans (hb3.mono Hbw.out.size))
  clear hb3 cF cC HB
  have cF := rowc RF.out; have cC := rowc RC.out
  go_upto_region 4 with fail
  have q1 : ¬ 9223372036854775807 < S0.length + T1.length := by omega
  have q2 : ¬ 9223372036854775807 < S0.length + T1.length + T2.length := by omega
  have q3 : ¬ 9223372036854775807 < S0.length + T1.length + T2.length + 1 := by omega
  have q4 : ¬ 9223372036854775807 < S0.length + T1.length + T2.length + 1 + T3.length := by omega
  have hcv : ∀ (wx : World) (bx : Nat), wx.cell? ⟨bx, 0, none⟩ = some (.int .u8 cd) → (convert 136 9 (.slice (some ⟨bx, 0, none⟩) 1 1)).run Tryz.prog wx = .ok (.string ⟨#[UInt8.ofNat cd.toNat]⟩) wx := fun wx bx h => run_byte_string wx bx cd Tryz.underlying136 Tryz.underlying5 Tryz.underlying9 (by omega) (by omega) h
  go_cut [12] (fun s wx => s = .string ⟨BB.toArray⟩ ∧ Below w3.heap.size w3 wx)
  case first =>
    have HB := Lib.hid (Below.refl w3.heap.size w3)
    clear HS HF HU HW1 HW2 HR1 HR2 RF cF hcr HLB hL4 hSVl
    have cCd := rowc_drew RC.out
    have hltC : w.heap.size + 1 < w3.heap.size := row_lt RC.out
    have hltD : w.heap.size + 1 < w3.drew.heap.size := row_lt RC.out
    go_region_with
      (first
      | (go_at_call 57; (with_reducible refine (HK.out _ ?_).mono ?_); (focus (first | (with_reducible exact (Hbw.out.trans (HB.out.mono Hbw.out.size))) | (with_reducible exact (Hbw.out.trans (HB.out.mono Hbw.out.size)).drew) | (with_reducible exact (Hbw.out.trans (HB.out.mono Hbw.out.size)).alloc (Hbw.out.trans (HB.out.mono Hbw.out.size)).size _) | (with_reducible exact ((Hbw.out.trans (HB.out.mono Hbw.out.size)).alloc (Hbw.out.trans (HB.out.mono Hbw.out.size)).size _).drew))); rintro e w9 ⟨rfl, hb9⟩; (first | ((with_reducible have hq := rows1 hb9); obtain ⟨rG, hbs, hl⟩ := hq; have cG := rowc rG; have fG := rowf rG; have RG := Lib.hid rG; clear rG hl) | ((with_reducible have hq := rows1d hb9); obtain ⟨rG, hbs, hl⟩ := hq; have cG := rowc rG; have fG := rowf rG; have RG := Lib.hid rG; clear rG hl) | ((with_reducible have hbs := drew_first hb9); try (replace RG := Lib.hid (row_keep hbs RG.out); replace cG := rowc RG.out; replace fG := rowf RG.out)) | (have hbs := hb9; try (replace RG := Lib.hid (row_keep hbs RG.out); replace cG := rowc RG.out; replace fG := rowf RG.out))); replace RC := Lib.hid (row_keep hbs RC.out); replace cC := rowc RC.out; replace HB := Lib.hid (HB.out.trans (hbs.mono HB.out.size)); clear hb9 hbs)
      | (go_at_call 76; (with_reducible refine (HT.out _ ?_).mono ?_); (focus (first | (with_reducible exact (Hbw.out.trans (HB.out.mono Hbw.out.size))) | (with_reducible exact (Hbw.out.trans (HB.out.mono Hbw.out.size)).drew) | (with_reducible exact (Hbw.out.trans (HB.out.mono Hbw.out.size)).alloc (Hbw.out.trans (HB.out.mono Hbw.out.size)).size _) | (with_reducible exact ((Hbw.out.trans (HB.out.mono Hbw.out.size)).alloc (Hbw.out.trans (HB.out.mono Hbw.out.size)).size _).drew))); rintro e w9 ⟨rfl, hb9⟩; (first | ((with_reducible have hq := rows1 hb9); obtain ⟨rG, hbs, hl⟩ := hq; have cG := rowc rG; have fG := rowf rG; have RG := Lib.hid rG; clear rG hl) | ((with_reducible have hq := rows1d hb9); obtain ⟨rG, hbs, hl⟩ := hq; have cG := rowc rG; have fG := rowf rG; have RG := Lib.hid rG; clear rG hl) | ((with_reducible have hbs := drew_first hb9); try (replace RG := Lib.hid (row_keep hbs RG.out); replace cG := rowc RG.out; replace fG := rowf RG.out)) | (have hbs := hb9; try (replace RG := Lib.hid (row_keep hbs RG.out); replace cG := rowc RG.out; replace fG := rowf RG.out))); replace RC := Lib.hid (row_keep hbs RC.out); replace cC := rowc RC.out; replace HB := Lib.hid (HB.out.trans (hbs.mono HB.out.size)); clear hb9 hbs)
      | (go_at_call 77; (with_reducible refine (HX1.out _).mono ?_); rintro e w9 ⟨rfl, hb9⟩; (first | ((with_reducible have hq := rows1 hb9); obtain ⟨rG, hbs, hl⟩ := hq; have cG := rowc rG; have fG := rowf rG; have RG := Lib.hid rG; clear rG hl) | ((with_reducible have hq := rows1d hb9); obtain ⟨rG, hbs, hl⟩ := hq; have cG := rowc rG; have fG := rowf rG; have RG := Lib.hid rG; clear rG hl) | ((with_reducible have hbs := drew_first hb9); try (replace RG := Lib.hid (row_keep hbs RG.out); replace cG := rowc RG.out; replace fG := rowf RG.out)) | (have hbs := hb9; try (replace RG := Lib.hid (row_keep hbs RG.out); replace cG := rowc RG.out; replace fG := rowf RG.out))); replace RC := Lib.hid (row_keep hbs RC.out); replace cC := rowc RC.out; replace HB := Lib.hid (HB.out.trans (hbs.mono HB.out.size)); clear hb9 hbs)
      | (go_at_call 77; (with_reducible refine (HX2.out _).mono ?_); rintro e w9 ⟨rfl, hb9⟩; (first | ((with_reducible have hq := rows1 hb9); obtain ⟨rG, hbs, hl⟩ := hq; have cG := rowc rG; have fG := rowf rG; have RG := Lib.hid rG; clear rG hl) | ((with_reducible have hq := rows1d hb9); obtain ⟨rG, hbs, hl⟩ := hq; have cG := rowc rG; have fG := rowf rG; have RG := Lib.hid rG; clear rG hl) | ((with_reducible have hbs := drew_first hb9); try (replace RG := Lib.hid (row_keep hbs RG.out); replace cG := rowc RG.out; replace fG := rowf RG.out)) | (have hbs := hb9; try (replace RG := Lib.hid (row_keep hbs RG.out); replace cG := rowc RG.out; replace fG := rowf RG.out))); replace RC := Lib.hid (row_keep hbs RC.out); replace cC := rowc RC.out; replace HB := Lib.hid (HB.out.trans (hbs.mono HB.out.size)); clear hb9 hbs)
      | (go_at_call 77; (with_reducible refine (HX3.out _).mono ?_); rintro e w9 ⟨rfl, hb9⟩; (first | ((with_reducible have hq := rows1 hb9); obtain ⟨rG, hbs, hl⟩ := hq; have cG := rowc rG; have fG := rowf rG; have RG := Lib.hid rG; clear rG hl) | ((with_reducible have hq := rows1d hb9); obtain ⟨rG, hbs, hl⟩ := hq; have cG := rowc rG; have fG := rowf rG; have RG := Lib.hid rG; clear rG hl) | ((with_reducible have hbs := drew_first hb9); try (replace RG := Lib.hid (row_keep hbs RG.out); replace cG := rowc RG.out; replace fG := rowf RG.out)) | (have hbs := hb9; try (replace RG := Lib.hid (row_keep hbs RG.out); replace cG := rowc RG.out; replace fG := rowf RG.out))); replace RC := Lib.hid (row_keep hbs RC.out); replace cC := rowc RC.out; replace HB := Lib.hid (HB.out.trans (hbs.mono HB.out.size)); clear hb9 hbs))
    all_goals (go_wp2_with fail; go_meet)
    all_goals
      refine ⟨congrArg Value.string (?_ : (((((⟨S0.toArray⟩ : ByteArray) ++ ⟨T1.toArray⟩) ++ ⟨T2.toArray⟩) ++ ⟨([UInt8.ofNat cd.toNat] : List UInt8).toArray⟩) ++ ⟨T3.toArray⟩) = _), ?_⟩
      focus (rw [ByteArray.mk_append_mk, ByteArray.mk_append_mk, ByteArray.mk_append_mk, ByteArray.mk_append_mk, Hbd.out]; simp)
      focus (first | (with_reducible exact HB.out) | (with_reducible exact HB.out.alloc HB.out.size _))
  case rest =>
  obtain ⟨rfl, hbx⟩ := hcut
  replace Hbw := Lib.hid (Hbw.out.trans (hbx.mono Hbw.out.size))
  clear hbx RF RC cF cC HK HT HW1 HW2 HR1 HR2 HX1 HX2 HX3 q1 q2 q3 q4 hcv
  have q5 : ¬ 9223372036854775807 < 1 + SV.length := by omega
  have q6 : ¬ 9223372036854775807 < 1 + SV.length + LL.length := by omega
  have hBl : BB.length ≤ 190000 := by rw [HLB.out]; exact z5
  have q7 : ¬ 9223372036854775807 < 1 + SV.length + LL.length + BB.length := by omega
  rw [← HLB.out] at HU
  clear HLB z5
  have hu64 : IntKind.u64.wrap (BB.length : Int) = (BB.length : Int) := by rw [IntKind.wrap_u64]; omega
  go_wp2_with fail
  refine (HS.out _).mono ?_; rintro e w4 ⟨rfl, hb4⟩
  replace Hbw := Lib.hid (Hbw.out.trans (hb4.mono Hbw.out.size)); clear hb4
  go_wp2_with fail
  refine (HF.out _).mono ?_; rintro e w5 ⟨rfl, hb5⟩
  replace Hbw := Lib.hid (Hbw.out.trans (hb5.mono Hbw.out.size)); clear hb5
  go_upto_region 6 with fail
  have hcv : ∀ (wx : World) (bx : Nat), wx.cell? ⟨bx, 0, none⟩ = some (.int .u8 80) → (convert 136 9 (.slice (some ⟨bx, 0, none⟩) 1 1)).run Tryz.prog wx = .ok (.string ⟨#[80]⟩) wx := fun wx bx h => run_byte_string wx bx 80 Tryz.underlying136 Tryz.underlying5 Tryz.underlying9 (by omega) (by omega) h
  have HB := Lib.hid (Below.refl w5.heap.size w5)
  clear HS HF
  go_region_with
    (first
    | (go_at_call 80; (with_reducible refine (HU.out _).mono ?_); rintro e w9 ⟨rfl, hb9⟩; (first | ((with_reducible have hq := rows1 hb9); obtain ⟨rG, hbs, hl⟩ := hq; have cG := rowc rG; have fG := rowf rG; have RG := Lib.hid rG; clear rG hl) | ((with_reducible have hq := rows1d hb9); obtain ⟨rG, hbs, hl⟩ := hq; have cG := rowc rG; have fG := rowf rG; have RG := Lib.hid rG; clear rG hl) | ((with_reducible have hbs := drew_first hb9); try (replace RG := Lib.hid (row_keep hbs RG.out); replace cG := rowc RG.out; replace fG := rowf RG.out)) | (have hbs := hb9; try (replace RG := Lib.hid (row_keep hbs RG.out); replace cG := rowc RG.out; replace fG := rowf RG.out))); replace HB := Lib.hid (HB.out.trans (hbs.mono HB.out.size)); clear hb9 hbs))
  all_goals go_wp2_with fail
  all_goals go_ret
  all_goals
    refine ⟨ret_of (congrArg Value.string (?_ : ((((⟨([80] : List UInt8).toArray⟩ : ByteArray) ++ ⟨SV.toArray⟩) ++ ⟨LL.toArray⟩) ++ ⟨BB.toArray⟩) = _)), ?_⟩
    focus (rw [ByteArray.mk_append_mk, ByteArray.mk_append_mk, ByteArray.mk_append_mk]; simp)
    focus (first | exact Hbw.out.trans (HB.out.mono Hbw.out.size) | exact (Hbw.out.trans (HB.out.mono Hbw.out.size)).alloc (Hbw.out.trans (HB.out.mono Hbw.out.size)).size _)
end Go.Proofs.YtpbkmfnfcdhhjaaGreatDoor
