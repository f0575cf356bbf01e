/- Merged texts: DelWa. -/
import Derived.Test.YtapiabmmfmfaeaaGreatDoorMDel
/- The walk of enc.Delta at right numbers of kind 2. -/
namespace Go.Proofs.YtapiabmmfmfaeaaGreatDoor
set_option maxHeartbeats 8000000
set_option linter.unusedVariables false
open Go Go.RowKit Go.ChangeShapes
set_option maxRecDepth 100000 in
theorem delta_some2 (kind : Int) (hk : kind = 2) (v : Value) (l : List Val) (w : World) (hI : IsVals w v l) (h0 : 0 < l.length) (hl : l.length ≤ 20000) (hO : ∀ x ∈ l, x.Ok) (hP : ∀ x ∈ l, OkP kind x) :
    Calls Tryz.prog 82 #[.int .i64 kind, v] w fun e w' => e = .returned (.tuple #[.string ⟨(deltaB (numsI l)).toArray⟩, .nilIface]) ∧ Below w.heap.size w w' := by
  obtain ⟨i0, hi, hz0, hz1, hz2⟩ := info_parts info_i64
  have HC := Lib.hid (check_vals kind v l w hI (by omega) (by omega) hl hO hP)
  have HI := Lib.hid hI; have HO := Lib.hid hO
  have hLl : (numsI l).length = l.length := by unfold numsI; rw [List.length_map]
  have hdl := deltaB_len (numsI l) (fun x hx => by
    obtain ⟨y, hy, rfl⟩ := List.mem_map.1 hx
    exact ⟨(hO y hy).n0, (hO y hy).n1⟩)
  rw [hLl] at hdl
  have hdl2 : (deltaB (numsI l)).length ≤ 6000000 := by omega
  have HLl := Lib.hid hLl
  obtain ⟨ad, cap, rfl⟩ := hI.form
  have d0 : ((l.length : Int) == 0) = false := by rw [beq_eq_false_iff_ne]; omega
  have hn0 : (numsI l).getD 0 0 = l[0].n := numsI_at l 0 h0
  have hst : seven (zig (l[0].n)) ++ restB ((numsI l).getD (1 - 1) 0) ((numsI l).drop 1) = deltaB (numsI l) := by
    cases l with
    | nil => simp at h0
    | cons x l => rfl
  have Hst := Lib.hid hst
  have ho0 := hO l[0] (List.getElem_mem h0)
  have HV := Lib.hid (fun w1 => varint_any l[0].n w1 ho0.n0 ho0.n1)
  have hx0 := List.getElem?_eq_getElem h0
  generalize l[0] = x0 at *
  have HX0 := Lib.hid hx0
  clear hI hO hP hLl hdl hn0 hst ho0 hx0
  subst hk
  all_goals
    go_enter Tryz.func82, Tryz.ntmps82
    go_wp2_with fail
    refine HC.out.mono ?_; rintro e w1 ⟨rfl, hb1⟩
    obtain ⟨b0, off0, rfl, hq, hlt0, hc⟩ := (HI.out.below hb1 (Nat.le_refl _)).at h0
    have hcx := (hc 0 x0 HX0.out).2.1
    rw [Nat.zero_mul, Nat.add_zero] at hcx
    have Hb1 := Lib.hid hb1
    clear hc hq hb1
    go_wp2_with fail
    refine (HV.out w1).mono ?_; rintro e w2 ⟨rfl, hb2⟩
    have Hb2 := Lib.hid (below_trans Hb1.out hb2)
    clear hb2 hcx
    go_wp2_with fail
    go_loopw [7, 8] (fun s iv wr => ∃ (i : Nat) (acc : List UInt8), 1 ≤ i ∧ i ≤ l.length + 31 ∧ iv = .int .i64 (i : Nat) ∧ s = .string ⟨acc.toArray⟩ ∧ acc ++ restB ((numsI l).getD (i - 1) 0) ((numsI l).drop i) = deltaB (numsI l) ∧ Below w.heap.size w wr) (fun _ iv _ => l.length + 40 - (intOf iv).toNat)
    case atStart => exact ⟨1, _, Nat.le_refl _, by omega, rfl, rfl, Hst.out, Hb2.out⟩
    case round =>
      obtain ⟨i, acc, hi1, hi2, rfl, rfl, hacc, hb⟩ := hrel
      have Hacc := Lib.hid hacc; have Hb := Lib.hid hb
      clear hacc hb
      by_cases hlt : i < l.length
      · have hcl : (((numsI l).drop i).take 32).length = min 32 (l.length - i) := by rw [List.length_take, List.length_drop, HLl.out]
        have hstep := restB_step (numsI l) i hi1 (by rw [HLl.out]; exact hlt)
        rw [hstep, ← List.append_assoc] at Hacc
        have hpl := diffs_place (numsI l) i
        have hDl := diffs_len (((numsI l).drop i).take 32) ((numsI l).getD (i - 1) 0)
        have hDin := diffs_in (((numsI l).drop i).take 32) ((numsI l).getD (i - 1) 0)
        have hcd := chunkB_eq ((numsI l).getD (i - 1) 0) (((numsI l).drop i).take 32)
        rw [hcl] at hDl
        rw [hcl] at hpl
        have hal : acc.length ≤ 6000000 := by
          have := congrArg List.length Hacc.out
          rw [List.length_append, List.length_append] at this
          omega
        generalize chunkB ((numsI l).getD (i - 1) 0) (((numsI l).drop i).take 32) = ch at *
        generalize diffs ((numsI l).getD (i - 1) 0) (((numsI l).drop i).take 32) = D at *
        have hm1 : 1 ≤ min 32 (l.length - i) := by omega
        have hm2 : min 32 (l.length - i) ≤ 32 := by omega
        have hmin : min ((i : Int) + 32) (l.length : Int) = ((i + min 32 (l.length - i) : Nat) : Int) := by omega
        have him : i + min 32 (l.length - i) ≤ l.length := by omega
        generalize min 32 (l.length - i) = m at *
        have Hpl := Lib.hid hpl; have HDl := Lib.hid hDl; have HDin := Lib.hid hDin; have Hcd := Lib.hid hcd
        clear hcl hstep hpl hDl hDin hcd
        go_wp2_with fail
        obtain ⟨wo, hwo⟩ : ∃ wo : World, wo = wr := ⟨_, rfl⟩
        subst hwo
        go_loopw [9, 10] (fun dv kv w3 => ∃ j : Nat, j ≤ m ∧ kv = .int .i64 ((i + j : Nat) : Int) ∧ w3.ownsRow wo.heap.size 2 1 dv j ((D.take j).map i64V) ∧ Below wo.heap.size wo w3) (fun _ kv _ => l.length + 40 - (intOf kv).toNat)
        case atStart => exact ⟨0, Nat.zero_le _, by go_num, World.ownsRow_nil _ _ _ _, Below.refl _ _⟩
        case round =>
          obtain ⟨j, hj, rfl, hown, hb3⟩ := hrel
          have Ho := Lib.hid hown; have Hb3 := Lib.hid hb3
          clear hown hb3
          by_cases hjm : j < m
          · obtain ⟨k, hk⟩ : ∃ k, k = i + j - 1 := ⟨_, rfl⟩
            have hij : i + j = k + 1 := by omega
            obtain ⟨b1, off1, he, hq, hlw, hcq⟩ := (HI.out.below Hb.out (Nat.le_refl _)).at h0
            have hc := fun (q : Nat) (z : Val) (hz : l[q]? = some z) => (hcq q z hz).below Hb3.out hlw
            injection he with he
            injection he with he1 he2
            subst he1 he2
            have hx := List.getElem?_eq_getElem (show k + 1 < l.length by omega)
            have hy := List.getElem?_eq_getElem (show k < l.length by omega)
            have hcx := (hc (k + 1) _ hx).2.1
            have hcy := (hc k _ hy).2.1
            have hcw := (hcq (k + 1) _ hx).2.1
            have hcv := (hcq k _ hy).2.1
            have hpj := Hpl.out j hi1 hjm
            rw [hij, show k + 1 - 1 = k by omega, numsI_at l (k + 1) (by omega), numsI_at l k (by omega)] at hpj
            have hd := d64_sub (l[k + 1]'(by omega)).n (l[k]'(by omega)).n
            have hdin := d64_in (l[k + 1]'(by omega)).n (l[k]'(by omega)).n
            generalize (l[k + 1]'(by omega)).n = x at *
            generalize (l[k]'(by omega)).n = y at *
            generalize d64 x y = dd at *
            have htk : D.take (j + 1) = D.take j ++ [dd] := by rw [List.take_add_one, hpj]; rfl
            have hlj : (D.take j).length = j := by rw [List.length_take, HDl.out]; omega
            have h63 : j + 1 ≤ maxLen := by unfold maxLen; omega
            have h64 : (j + 1) * 8 ≤ 140737488355328 := by omega
            have Htk := Lib.hid htk
            have hkk : IntKind.i64.wrap (((k + 1 : Nat) : Int) - 1) = (k : Int) := by rw [IntKind.wrap_i64]; omega
            have hlt3 : (k : Int) + 1 < (i : Int) + (m : Int) := by omega
            have hin1 : (k : Int) + 1 < (l.length : Int) := by omega
            have hin2 : (k : Int) < (l.length : Int) := by omega
            have hin3 : (0 : Int) ≤ (k : Int) + 1 := by omega
            have hin4 : (0 : Int) ≤ (k : Int) := by omega
            have hkk2 : IntKind.i64.wrap ((k : Int) + 1 - 1) = (k : Int) := by rw [IntKind.wrap_i64]; omega
            have hkk4 : IntKind.i64.wrap (k : Int) = (k : Int) := by rw [IntKind.wrap_i64]; omega
            have hkk3 : ((k : Int) + 1).toNat = k + 1 := by omega
            rw [hij]
            clear hc hcq hq hx hy hpj htk hlj hk
            go_wp2_with fail
            have hws : wo.heap.size ≤ wr.heap.size := Hb3.out.size
            go_region_held3 (fun w' => w'.cell? ⟨b0, off0 + (k + 1) * 3 + 1, none⟩ = some (.int .i64 x) ∧ w'.cell? ⟨b0, off0 + k * 3 + 1, none⟩ = some (.int .i64 y))
              (first | exact ⟨hcx, hcy⟩ | exact ⟨hcx5, hcy5⟩ | go_keep)
              ((refine step_append_lies _ (by rfl) _ _ _ (by rfl) wo.heap.size 2 i0 _ 1 8 Tryz.underlying185 hi hz0 hz1 hz2 rfl (by omega) _ _ ((D.take j).map i64V) (by rfl) ((Ho.out.alloc _).drew)
                  ⟨wr.heap.size, 0, none⟩ 1 1 [.int .i64 dd] (by rfl) (by rfl) (World.news_of_block (cs := #[.int .i64 dd]) (t := 2) (fr := (0, 0)) (heap_alloc_new wr _)) (by simp [Value.oneCell'])
                  (by omega) h63 h64 (by simp; omega) (wr.heap.size + 1) (by simp) ?_; intro gg cap5 w5 hown5 hgrow5 hat5 hlt5
                have hb5 : Below wo.heap.size wo w5 := ((Hb3.out.alloc hws _).drew).grown hgrow5 (by simp; omega) (fun k hk => (Ho.out.lt k hk).1)
                have hcx5 := (hb5.cell (p := ⟨b0, off0 + (k + 1) * 3 + 1, none⟩) hlw).trans hcw
                have hcy5 := (hb5.cell (p := ⟨b0, off0 + k * 3 + 1, none⟩) hlw).trans hcv))
            have Ho5 := Lib.hid hown5; have Hb5 := Lib.hid hb5
            clear hown5 hb5 hcx5 hcy5 hgrow5 hat5 hlt5
            go_wp2_with fail
            go_roundw
            case rel => exact ⟨j + 1, by omega, by simp; omega, by rw [Htk.out, List.map_append]; exact Ho5.out, Hb5.out⟩
            case measure => simp [intOf]; omega
          · obtain rfl : j = m := by omega
            have hDt : D.take j = D := List.take_of_length_le (by rw [HDl.out]; exact Nat.le_refl _)
            rw [hDt] at Ho
            have hJ := IsNums.of_own (K := .i64) (l := D) (B := wo.heap.size) (e := 2) (by rw [HDl.out]; exact Ho.out)
            obtain ⟨adD, capD, hD⟩ := hJ.form
            subst hD
            have hDpos : 0 < D.length := by rw [HDl.out]; omega
            obtain ⟨gD, oD, rfl, _, hgl, hcD⟩ := hJ.at hDpos
            have hcD0 := hcD 0 (D.headD 0) (by cases D with | nil => simp at hDpos | cons a D => rfl)
            rw [Nat.add_zero] at hcD0
            have hmn0 : D.foldl min (D.headD 0) = minOf D := rfl
            generalize D.headD 0 = dz at *
            have Hmn0 := Lib.hid hmn0
            clear hmn0
            have HcD := Lib.hid hcD
            have hDm : D.length ≤ 32 := by rw [HDl.out]; omega
            clear hcD hJ hDt hjm
            go_wp2_with fail
            go_loop [11, 80] (fun lv q => ∃ t : Nat, t ≤ D.length ∧ q = .int .i64 (t : Nat) ∧ lv = .int .i64 ((D.take t).foldl min dz)) (fun _ q => D.length - (intOf q).toNat)
            case atStart => exact ⟨0, Nat.zero_le _, rfl, rfl⟩
            case round =>
              obtain ⟨t, ht, rfl, rfl⟩ := hrel
              by_cases htm : t < D.length
              · have hct := HcD.out t D[t] (List.getElem?_eq_getElem htm)
                have hts := fold_min_snoc (D.take t) D[t] dz
                rw [← List.take_succ_eq_append_getElem htm] at hts
                generalize D[t] = x at *
                have Hts := Lib.hid hts
                clear hts
                go_wp2_with fail
                go_round
                case rel => exact ⟨t + 1, by omega, by go_num, by rw [Hts.out]⟩
                case measure => simp [intOf]; omega
              · obtain rfl : t = D.length := by omega
                rw [List.take_length]
                rw [Hmn0.out]
                have hmin' := HDin.out _ (minOf_in (l := D) (by intro h; rw [h] at hDpos; simp at hDpos))
                have hU : unsubs D = D.map (unsub (minOf D)) := rfl
                have hUlt := unsubs_lt D
                have hwf := widOf_fold hUlt
                have hwl := widOf_le (unsubs D)
                have hwfit := widOf_fits hUlt
                have HV2 := Lib.hid (fun w1 => varint_any (minOf D) w1 hmin'.1 hmin'.2)
                generalize unsubs D = U at *
                generalize widOf U = wd at *
                generalize minOf D = mn at *
                have hUl : U.length = D.length := by rw [hU, List.length_map]
                have HU := Lib.hid hU; have HUl := Lib.hid hUl; have Hwf := Lib.hid hwf; have Hwfit := Lib.hid hwfit; have HUlt := Lib.hid hUlt
                clear hU hUl hwf hwfit hUlt htm ht
                go_wp2_with fail
                go_loop [14, 90] (fun wv q => ∃ t : Nat, t ≤ D.length ∧ q = .int .i64 (t : Nat) ∧ wv = .int .i64 (((U.take t).foldl (fun w x => max w (Lib.bitLen x)) 0 : Nat) : Int)) (fun _ q => D.length - (intOf q).toNat)
                case atStart => exact ⟨0, Nat.zero_le _, rfl, rfl⟩
                case round =>
                  obtain ⟨t, ht, rfl, rfl⟩ := hrel
                  by_cases htm : t < D.length
                  · have hct := HcD.out t D[t] (List.getElem?_eq_getElem htm)
                    have hts : U.take (t + 1) = U.take t ++ [unsub mn D[t]] := by
                      rw [HU.out, ← List.map_take, List.take_succ_eq_append_getElem htm, List.map_append, List.map_take]; rfl
                    have hul := unsub_lt mn D[t]
                    have hus := unsub_sub mn D[t]
                    generalize D[t] = x at *
                    generalize unsub mn x = un at *
                    have hf : (U.take (t + 1)).foldl (fun w x => max w (Lib.bitLen x)) 0 = max ((U.take t).foldl (fun w x => max w (Lib.bitLen x)) 0) (Lib.bitLen un) := by rw [hts]; simp
                    have HL := Lib.hid (fun w1 => show Calls Tryz.prog 110 #[.int .u64 ((un : Nat) : Int)] w1 fun e w' => e = .returned (.int .i64 ((Lib.bitLen un : Nat) : Int)) ∧ w' = w1 from Tryz.bits_Len64 ((un : Nat) : Int) w1 (by omega) (by omega))
                    have Hf := Lib.hid hf
                    clear hts hf
                    have hbl := bitLen_le un
                    generalize Lib.bitLen un = bl at *
                    generalize (U.take t).foldl (fun w x => max w (Lib.bitLen x)) 0 = W at *
                    have hmx : max ((W : Nat) : Int) ((bl : Nat) : Int) = ((max W bl : Nat) : Int) := by omega
                    go_wp2_with fail
                    refine (HL.out _).mono ?_; rintro e w4 ⟨rfl, hw4⟩
                    subst hw4
                    go_wp2_with fail
                    go_round
                    case rel => exact ⟨t + 1, by omega, by go_num, by rw [Hf.out]⟩
                    case measure => simp [intOf]; omega
                  · obtain rfl : t = D.length := by omega
                    rw [List.take_of_length_le (Nat.le_of_eq HUl.out), Hwf.out]
                    clear htm ht
                    have hz : BitsAt wr.heap.size wr.heap.size 0 0 (wr.alloc (.cells #[.slice none 0 0, .int .i64 0] 187)) := ⟨Nat.le_refl _, .slice none 0 0, heap_alloc_new wr _, World.ownsRow_nil _ _ _ _⟩
                    have Hz := Lib.hid hz
                    clear hz
                    go_wp2_with fail
                    obtain ⟨wx, hwx⟩ : ∃ wx : World, wx = wr := ⟨_, rfl⟩
                    subst hwx
                    go_loopw [105] (fun q w6 => ∃ t : Nat, t ≤ D.length ∧ q = .int .i64 (t : Nat) ∧ BitsAt wx.heap.size wx.heap.size (t * wd) (packN wd (U.take t)) w6 ∧ packN wd (U.take t) < 2 ^ (t * wd) ∧ Below wx.heap.size wx w6) (fun q _ => D.length - (intOf q).toNat)
                    case atStart =>
                      refine ⟨0, Nat.zero_le _, rfl, ?_, ?_, (Below.refl _ _).alloc (Nat.le_refl _) _⟩
                      · simpa [packN] using Hz.out
                      · simp [packN]
                    case round =>
                      obtain ⟨t, ht, rfl, hbt, hV, hb6⟩ := hrel
                      have Hbt := Lib.hid hbt; have HVt := Lib.hid hV; have Hb6 := Lib.hid hb6
                      clear hbt hV hb6
                      by_cases htm : t < D.length
                      · have hct := (Hb6.out.cell (p := ⟨gD, oD + t, none⟩) hgl).trans (HcD.out t D[t] (List.getElem?_eq_getElem htm))
                        have hts : U.take (t + 1) = U.take t ++ [unsub mn D[t]] := by
                          rw [HU.out, ← List.map_take, List.take_succ_eq_append_getElem htm, List.map_append, List.map_take]; rfl
                        have hul := unsub_lt mn D[t]
                        have hus := unsub_sub mn D[t]
                        have hmem : unsub mn D[t] ∈ U := by rw [HU.out]; exact List.mem_map_of_mem (List.getElem_mem htm)
                        have hfit := Hwfit.out _ hmem
                        generalize D[t] = x at *
                        generalize unsub mn x = un at *
                        have hutl : (U.take t).length = t := by rw [List.length_take, HUl.out]; omega
                        have hps := packN_snoc wd un (U.take t)
                        rw [← hts, hutl] at hps
                        have htw : t * wd ≤ 32 * 64 := Nat.mul_le_mul (by omega) hwl
                        have HPut := Lib.hid (fun w1 h h3 => put_any wx.heap.size wx.heap.size (t * wd) (packN wd (U.take t)) un wd w1 h HVt.out hul hwl (by omega) h3)
                        rw [Nat.mod_eq_of_lt hfit, ← hps] at HPut
                        clear hts hmem hfit hutl hps htw
                        go_wp2_with fail
                        refine (HPut.out _ Hbt.out Hb6.out.size).mono ?_; rintro e w7 ⟨rfl, hbt7, hV7, hb7⟩
                        have Hbt7 := Lib.hid hbt7; have HV7 := Lib.hid hV7; have Hb7 := Lib.hid (Hb6.out.trans hb7)
                        clear hbt7 hV7 hb7
                        go_wp2_with fail
                        go_roundw
                        case rel => exact ⟨t + 1, by omega, by go_num, by rw [Nat.add_one_mul]; exact Hbt7.out, by rw [Nat.add_one_mul]; exact HV7.out, Hb7.out⟩
                        case measure => simp [intOf]; omega
                      · obtain rfl : t = D.length := by omega
                        have hpk : bytesOf (D.length * wd) (packN wd U) = packed wd U := by unfold packed; rw [HUl.out]
                        have hpkl : (packed wd U).length ≤ 300 := by
                          rw [← hpk, bytesOf_len]
                          have : D.length * wd ≤ 32 * 64 := Nat.mul_le_mul hDm hwl
                          omega
                        have HTx := Lib.hid (fun w1 h => text_bits wx.heap.size wx.heap.size (D.length * wd) (packN wd U) w1 h)
                        rw [hpk] at HTx
                        rw [List.take_of_length_le (Nat.le_of_eq HUl.out)] at Hbt
                        clear hpk HVt htm ht
                        go_wp2_with fail
                        have hcv : ∀ w8 : World, (convert 129 9 (.slice (some ⟨w8.heap.size, 0, none⟩) 1 1)).run Tryz.prog (w8.alloc (.cells #[.int .u8 (IntKind.u8.wrap ((wd : Nat) : Int))] 5)) = .ok (.string ⟨#[UInt8.ofNat wd]⟩) (w8.alloc (.cells #[.int .u8 (IntKind.u8.wrap ((wd : Nat) : Int))] 5)) := fun w8 => by
                          have h8 : IntKind.u8.wrap ((wd : Nat) : Int) = (wd : Int) := by rw [IntKind.wrap_u8]; omega
                          rw [h8]
                          exact run_lit_string w8 (wd : Int) Tryz.underlying129 Tryz.underlying5 Tryz.underlying9 (by omega) (by omega)
                        have hcv2 : Hid (∀ (w8 : World) (b : Nat), w8.cell? ⟨b, 0, none⟩ = some (.int .u8 (IntKind.u8.wrap ((wd : Nat) : Int))) → (convert 129 9 (.slice (some ⟨b, 0, none⟩) 1 1)).run Tryz.prog w8 = .ok (.string ⟨#[UInt8.ofNat wd]⟩) w8) := fun w8 b hc => by
                          have h8 : IntKind.u8.wrap ((wd : Nat) : Int) = (wd : Int) := by rw [IntKind.wrap_u8]; omega
                          rw [h8] at hc
                          exact run_byte_at (by omega) hc
                        have hs7 : (seven (zig mn)).length ≤ 10 := seven_len (zig_lt hmin'.1 hmin'.2)
                        have hchl : ch = seven (zig mn) ++ [UInt8.ofNat wd] ++ packed wd U := Hcd.out
                        generalize seven (zig mn) = s7 at *
                        generalize packed wd U = pk at *
                        have hchb : ByteArray.mk acc.toArray ++ (ByteArray.mk s7.toArray ++ ByteArray.mk #[UInt8.ofNat wd] ++ ByteArray.mk pk.toArray) = ByteArray.mk (acc ++ ch).toArray := by
                          rw [hchl, ByteArray.mk_append_mk s7 [UInt8.ofNat wd], ByteArray.mk_append_mk, ByteArray.mk_append_mk]
                        have hbs : (ByteArray.mk #[UInt8.ofNat wd]).size = 1 := rfl
                        generalize ByteArray.mk #[UInt8.ofNat wd] = bw at *
                        have Hch := Lib.hid hchb
                        have hadd1 : ¬ 9223372036854775807 < s7.length + bw.size := by omega
                        have hadd2 : ¬ 9223372036854775807 < s7.length + bw.size + pk.length := by omega
                        have hadd3 : ¬ 9223372036854775807 < acc.length + (s7.length + bw.size + pk.length) := by omega
                        clear hchl hchb hbs hz0 hz1 hz2 hdl2 d0 hal hm1 hm2 hmin him hcD0 hDpos hDm hmin' hpkl hs7
                        have hcvd := hcv2.out ((wr.alloc (.cells #[.int .u8 (IntKind.u8.wrap ((wd : Nat) : Int))] 5)).drew) wr.heap.size (by
                          show (wr.alloc _).cell? _ = _
                          rw [World.cell?_alloc_at _ _ _ _ rfl]; rfl)
                        go_region_with (first
                          | (go_at_call 111; (with_reducible refine (HV2.out _).mono ?_); rintro e w8 ⟨rfl, hb8⟩
                             have hb8 : Below wr.heap.size wr w8 := first_below hb8)
                          | (go_at_call 111; (with_reducible refine (HV2.out _).mono ?_); rintro e w8 ⟨rfl, hb8⟩
                             have hcv3 := hcv2.out w8 wr.heap.size (first_cell_alloc hb8)
                             have hb8 : Below wr.heap.size wr w8 := first_below_alloc hb8)
                          | (go_at_call 113; first | (refine (HTx.out _ (Hbt.out.below hb8)).mono ?_; rintro e w9 ⟨rfl, rfl⟩) | (refine (HTx.out _ (Hbt.out.below (hb8.alloc hb8.size _))).mono ?_; rintro e w9 ⟨rfl, rfl⟩)))
                        all_goals
                          go_wp2_with fail
                          go_roundw
                          case rel => exact ⟨i + 32, acc ++ ch, by omega, by omega, by go_num, by rw [← Hch.out], Hacc.out, by
                            have hbz := Hb.out.trans ((Hb3.out.trans ((Hb6.out.trans (hb8.mono Hb6.out.size)).mono Hb3.out.size)).mono Hb.out.size)
                            first | exact hbz | exact hbz.alloc hbz.size _⟩
                          case measure => simp [intOf]; omega
      · have hd : (numsI l).drop i = [] := List.drop_eq_nil_iff.2 (by rw [HLl.out]; omega)
        have Hfin := Lib.hid (show acc = deltaB (numsI l) by rw [← Hacc.out, hd, restB_nil, List.append_nil])
        clear hd
        go_wp2_with fail
        go_ret2
        exact ⟨ret_of (by rw [← Hfin.out]; rfl), Hb.out⟩
end Go.Proofs.YtapiabmmfmfaeaaGreatDoor
