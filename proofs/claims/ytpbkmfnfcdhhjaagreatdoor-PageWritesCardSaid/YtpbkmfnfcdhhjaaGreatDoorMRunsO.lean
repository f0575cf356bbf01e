/- Merged texts: RunsOf. -/
import Derived.Test.YtpbkmfnfcdhhjaaGreatDoorMReads
import Derived.Test.YtpbkmfnfcdhhjaaGreatDoorMRuns
import Derived.Test.YtpbkmfnfcdhhjaaGreatDoorMBits
import Derived.IntWalk

/- The walk of the document's RunsOf. -/
namespace Go.Proofs.YtpbkmfnfcdhhjaaGreatDoor
set_option linter.unusedVariables false
open Go Go.RowKit Go.ChangeShapes

theorem pad8_at (l : List Nat) (k : Nat) (h : k < 8) : (pad8 l)[k]? = some (l.getD k 0) := by
  unfold pad8
  by_cases h1 : k < l.length
  · rw [List.getElem?_append_left (by rw [List.length_take]; omega), List.getElem?_take, if_pos h, List.getD_eq_getElem?_getD, List.getElem?_eq_getElem h1]; rfl
  · rw [List.getElem?_append_right (by rw [List.length_take]; omega), List.length_take, List.getElem?_replicate, if_pos (by omega), List.getD_eq_getElem?_getD, List.getElem?_eq_none (by omega)]; rfl
theorem pad8_snoc (l : List Nat) (k : Nat) (h : k < 8) : (pad8 l).take (k + 1) = (pad8 l).take k ++ [l.getD k 0] := by
  rw [List.take_add_one, pad8_at l k h]; rfl

set_option maxRecDepth 100000 in
set_option maxHeartbeats 4000000 in
theorem runsOf_any (v : Value) (L : List Nat) (wd : Nat) (w : World) (hI : IsInts w v (ints L)) (h1 : wd ≤ 32) (h2 : L.length ≤ 1000) (hg : ∀ x ∈ L, x < 2 ^ wd) :
    Calls Tryz.prog 45 #[v, .int .i64 (wd : Nat)] w fun e w' => e = .returned (.string ⟨(runsB wd L []).toArray⟩) ∧ Below w.heap.size w w' := by
  obtain ⟨i0, hi, hz0, hz1, hz2⟩ := info_parts info_int
  have hlen := runsB_len wd h1 _ L [] rfl (by simp; omega)
  have hil : (ints L).length = L.length := by simp [ints]
  have Hg := Lib.hid hg; have Hlen := Lib.hid hlen; have HI := Lib.hid hI
  clear hg hlen
  obtain ⟨ad, cap, rfl⟩ := hI.form
  rw [hil] at HI ⊢
  have Hil := Lib.hid hil
  clear hI hil
  go_enter Tryz.func45, Tryz.ntmps45
  go_wp2_with fail
  go_loopw [5, 6, 7] (fun o u i wr => ∃ (k : Nat) (op : List Nat) (bs : List UInt8), i = .int .i64 (k : Nat) ∧ o = .string ⟨bs.toArray⟩ ∧ wr.ownsRow w.heap.size 3 1 u op.length (op.map natV) ∧ Below w.heap.size w wr ∧ k ≤ L.length + 8 ∧ (L.length ≤ k → op = []) ∧ op.length % 8 = 0 ∧ op.length ≤ k ∧
    (∀ x ∈ op, x < 2 ^ wd) ∧ bs ++ runsB wd (L.drop k) op = runsB wd L []) (fun _ _ i _ => L.length + 8 - (intOf i).toNat)
  case atStart => exact ⟨0, [], [], rfl, rfl, World.ownsRow_nil _ _ _ _, Below.refl _ _, by omega, by simp, rfl, Nat.zero_le _, by simp, rfl⟩
  case round =>
    obtain ⟨k, op, bs, rfl, rfl, hown, hb, hk, hend, ho8, hok, hog, heq⟩ := hrel
    have hbs : bs.length ≤ 41000 := by have := congrArg List.length heq; have h3 := Hlen.out; rw [List.length_append] at this; simp at h3; omega
    obtain ⟨ado, capo, rfl⟩ := own_form hown
    have Hown := Lib.hid hown; have Hog := Lib.hid hog; have Heq := Lib.hid heq; have Hend := Lib.hid hend; have Ho8 := Lib.hid ho8
    clear hown hog heq hend ho8
    by_cases hlt : k < L.length
    · obtain ⟨b0, off, rfl, hq, hlt0, hc⟩ := HI.out.at (by rw [Hil.out]; omega)
      clear hq
      obtain ⟨a, R', hR⟩ : ∃ a R', L.drop k = a :: R' := by
        cases h : L.drop k with
        | nil => have := congrArg List.length h; rw [List.length_drop] at this; simp at this; omega
        | cons a R' => exact ⟨a, R', rfl⟩
      have hat : ∀ j x, (a :: R')[j]? = some x → L[k + j]? = some x := fun j x h => by rw [← hR, List.getElem?_drop] at h; exact h
      have hRl : R'.length + 1 = L.length - k := by have := congrArg List.length hR; rw [List.length_drop] at this; simpa using this.symm
      have hcx : ∀ j x, (a :: R')[j]? = some x → wr.cell? ⟨b0, off + (k + j), none⟩ = some (.int .i64 (x : Nat)) := fun j x hj => by
        rw [hb.cell (p := ⟨b0, off + (k + j), none⟩) hlt0]
        exact hc (k + j) x (by unfold ints; rw [List.getElem?_map, hat j x hj]; rfl)
      have hcw : ∀ j x, (a :: R')[j]? = some x → w.cell? ⟨b0, off + (k + j), none⟩ = some (.int .i64 (x : Nat)) := fun j x hj => hc (k + j) x (by unfold ints; rw [List.getElem?_map, hat j x hj]; rfl)
      have Hcw := Lib.hid hcw; clear hcw
      have hb0r : b0 < wr.heap.size := Nat.lt_of_lt_of_le hlt0 hb.size
      have hga : a < 2 ^ wd := Hg.out a (List.mem_of_getElem? (hat 0 a rfl))
      have c0 : wr.cell? ⟨b0, off + k, none⟩ = some (.int .i64 (a : Nat)) := hcx 0 a rfl
      have hRg : ∀ x ∈ a :: R', x < 2 ^ wd := fun x hx => Hg.out x (List.mem_of_mem_drop (by rw [hR]; exact hx))
      have Hcx := Lib.hid hcx; have HR := Lib.hid hR; have HRl := Lib.hid hRl; have HRg := Lib.hid hRg
      rw [hR] at Heq
      clear hc hat hcx hR hRl hRg
      go_wp2_with fail
      go_loopw [8] (fun c wr' => ∃ j : Nat, j ≤ headRun (a :: R') ∧ c = .int .i64 (j : Nat) ∧ Below wr.heap.size wr wr') (fun c _ => L.length - (intOf c).toNat)
      case atStart => exact ⟨0, Nat.zero_le _, rfl, Below.refl _ _⟩
      case round =>
        obtain ⟨j, hjh, rfl, hbj⟩ := hrel
        have hle := headRun_le (a :: R')
        rw [List.length_cons, HRl.out] at hle
        have d0 := (hbj.cell (p := ⟨b0, off + k, none⟩) hb0r).trans c0
        by_cases hjlt : j < headRun (a :: R')
        · have hck := (hbj.cell (p := ⟨b0, off + (k + j), none⟩) hb0r).trans (Hcx.out j a (headRun_at a R' j hjlt))
          have Hlt := Lib.hid hjlt
          have hjn : k + j < L.length := by omega
          have d1 : decide ((k : Int) + (j : Int) < (L.length : Int)) = true := by simp; omega
          have s1 : IntKind.i64.wrap ((k : Int) + (j : Int)) = (k : Int) + (j : Int) := IntWalk.i64_in _ (by omega)
          have s2 : 0 ≤ (k : Int) + (j : Int) := by omega
          have s3 : ((k : Int) + (j : Int)).toNat = k + j := by omega
          have s4 : (k : Int) + (j : Int) < (L.length : Int) := by omega
          have s5 : (k : Int) < (L.length : Int) := by omega
          clear hle hjlt hjh
          go_wp2_with fail
          go_quiet (fail)
          clear s1 s2 s3 s4 s5 d1
          go_wp2_with fail
          go_roundw
          case rel => exact ⟨j + 1, Hlt.out, by go_num, below_drewN hbj _⟩
          case measure => simp [intOf]; omega
        · have hjc : j = headRun (a :: R') := by omega
          clear hjlt
          have hjn : k + j ≤ L.length := by omega
          have hj1 : 1 ≤ j := by have := headRun_pos a R'; omega
          have HDj := Lib.hid hjc
          by_cases hend : k + j < L.length
          focus
            obtain ⟨x, hx⟩ : ∃ x, (a :: R')[j]? = some x := ⟨_, List.getElem?_eq_getElem (by rw [List.length_cons, HRl.out]; omega)⟩
            have hxa : ¬ x = a := headRun_stop a R' x (by rw [← hjc]; exact hx)
            have hck := (hbj.cell (p := ⟨b0, off + (k + j), none⟩) hb0r).trans (Hcx.out j x hx)
            have hbx : (((x : Nat) : Int) == ((a : Nat) : Int)) = false := by rw [beq_eq_false_iff_ne]; omega
            clear hxa
            have d1 : decide ((k : Int) + (j : Int) < (L.length : Int)) = true := by simp; omega
            have s1 : IntKind.i64.wrap ((k : Int) + (j : Int)) = (k : Int) + (j : Int) := IntWalk.i64_in _ (by omega)
            have s2 : 0 ≤ (k : Int) + (j : Int) := by omega
            have s3 : ((k : Int) + (j : Int)).toNat = k + j := by omega
            have s4 : (k : Int) + (j : Int) < (L.length : Int) := by omega
            have s5 : (k : Int) < (L.length : Int) := by omega
            clear hle hjh hjc
            go_wp2_with fail
            go_quiet (fail)
            clear s1 s2 s3 s4 s5 d1 hend hx hck hbx
          rotate_left
          focus
            have d1 : decide ((k : Int) + (j : Int) < (L.length : Int)) = false := by simp; omega
            have s1 : IntKind.i64.wrap ((k : Int) + (j : Int)) = (k : Int) + (j : Int) := IntWalk.i64_in _ (by omega)
            clear hle hjh hjc
            go_wp2_with fail
            go_quiet (fail)
            clear s1 d1
            clear hend
          all_goals
            have hbq := below_drewN hbj nq
            have hownq := own_below Hown.out hbq
            have d0q := (hbq.cell (p := ⟨b0, off + k, none⟩) hb0r).trans c0
            have hcq : ∀ j x, (a :: R')[j]? = some x → (wr.drewN nq).cell? ⟨b0, off + (k + j), none⟩ = some (.int .i64 (x : Nat)) := fun j x h => (hbq.cell (p := ⟨b0, off + (k + j), none⟩) hb0r).trans (Hcx.out j x h)
            have hbw := hb.trans (hbq.mono hb.size)
            have hb0q : b0 < (wr.drewN nq).heap.size := Nat.lt_of_lt_of_le hb0r hbq.size
            have Hownq := Lib.hid hownq; have Hcq := Lib.hid hcq
            clear hownq hcq hbq d0
            generalize wr.drewN nq = wq at *
            by_cases h8 : (8 ≤ j)
            · have hE2 := Heq.out
              rw [runsB_run wd a R' op (by rw [← HDj.out]; exact h8), ← HDj.out, ← List.append_assoc] at hE2
              have HE2 := Lib.hid hE2
              clear hE2
              by_cases hop : op = []
              focus
                subst hop
                have hE3 := HE2.out
                rw [flush_nil, List.append_nil] at hE3
                have HE3 := Lib.hid hE3
                have HF := Lib.hid (show wq.ownsRow w.heap.size 3 1 (.slice ado 0 capo) 0 [] from Hownq.out)
                have hbs2 : bs.length ≤ 50000 := by omega
                clear hE3
                go_wp2_with fail
                generalize hbsF : bs = bsF at *
                clear hbsF
              rotate_left
              focus
                obtain ⟨q, hq⟩ : ∃ q, op.length = 8 * q := ⟨op.length / 8, by have := Ho8.out; omega⟩
                have hpos : 0 < op.length := List.length_pos_iff.2 hop
                have hqi : ((op.length : Nat) : Int) / 8 = (q : Int) := by omega
                have hfl := flush_cons wd hop
                rw [hq, Nat.mul_div_cancel_left _ (by decide)] at hfl
                have hs7 : (seven (2 * q + 1)).length ≤ 10 := seven_len (by omega)
                have hpk : (packed wd op).length ≤ 5000 := by
                  rw [packed, bytesOf_len]
                  have : op.length * wd ≤ 1008 * 32 := Nat.mul_le_mul (by omega) h1
                  omega
                have HS := Lib.hid (fun w1 => show Calls Tryz.prog 48 #[.int .u64 ((q : Int) * 2 + 1)] w1 fun e w' => e = .returned (.string ⟨(seven (2 * q + 1)).toArray⟩) ∧ Below w1.heap.size w1 w' by
                  have := sevenOf_any ((q : Int) * 2 + 1) w1 (by omega) (by omega)
                  rwa [show ((q : Int) * 2 + 1).toNat = 2 * q + 1 by omega] at this)
                have HW := Lib.hid (fun w1 (h : IsInts w1 (.slice ado op.length capo) (ints op)) => wide_any _ (ints op) w1 h (by simp [ints]; omega) (fun x hx => by
                  obtain ⟨n, hn, rfl⟩ := List.mem_map.1 hx
                  have h3 : (2 : Nat) ^ wd ≤ 2 ^ 32 := Nat.pow_le_pow_right (by decide) h1
                  have := Hog.out n hn
                  omega))
                have HP := Lib.hid (fun u w1 h => packOf_any u op wd w1 h h1 (by omega) Hog.out)
                have hbsl : (bs ++ flush wd op).length ≤ 50000 := by rw [List.length_append, hfl, List.length_append]; omega
                have Hfl := Lib.hid hfl; have Hq := Lib.hid hq; have Hbsl := Lib.hid hbsl
                clear hfl hq hbsl
                go_wp2_with fail
                refine (HS.out _).mono ?_; rintro e w1 ⟨rfl, hb1⟩
                go_wp2_with fail
                refine (HW.out w1 (nums_nat (own_below Hownq.out hb1))).mono ?_; rintro e w2 ⟨⟨u, rfl, hu⟩, hb2⟩
                have hN : IsNums .u64 w2 u (ints op) := IsNums.of_own hu
                clear hu
                go_wp2_with fail
                refine (HP.out u w2 hN).mono ?_; rintro e w3 ⟨rfl, hb3⟩
                clear hN
                have hb3 := below_trans (below_trans hb1 hb2) hb3
                clear hb1 hb2
                go_wp2_with fail
                rw [show (ByteArray.mk bs.toArray ++ ByteArray.mk (seven (2 * q + 1)).toArray ++ ByteArray.mk (packed wd op).toArray) = ⟨(bs ++ flush wd op).toArray⟩ by rw [ByteArray.mk_append_mk, ByteArray.mk_append_mk, Hfl.out, List.append_assoc]]
                have HF := Lib.hid (World.ownsRow_nil w3 w.heap.size 3 1)
                have d0q := (hb3.cell (p := ⟨b0, off + k, none⟩) hb0q).trans d0q
                have hbw := hbw.trans (hb3.mono hbw.size)
                have hb0q := Nat.lt_of_lt_of_le hb0q hb3.size
                have HE3 := HE2
                have hbs2 := Hbsl.out
                clear Hbsl hs7 hpk hb3 hqi hpos
                generalize bs ++ flush wd op = bsF at *
                generalize w3 = wq at *
              all_goals
                have hU := Lib.hid (fun w1 => show Calls Tryz.prog 48 #[.int .u64 (2 * (j : Int))] w1 fun e w' => e = .returned (.string ⟨(seven (2 * j)).toArray⟩) ∧ Below w1.heap.size w1 w' by
                  have := sevenOf_any (2 * (j : Int)) w1 (by omega) (by omega)
                  rwa [show (2 * (j : Int)).toNat = 2 * j by omega] at this)
                have hzw : ((wd : Int) + 7) / 8 = ((sizeB wd : Nat) : Int) := by unfold sizeB; omega
                have hzt : ((wd : Int) + 7).tdiv 8 = ((sizeB wd : Nat) : Int) := by rw [Int.tdiv_eq_ediv_of_nonneg (by omega)]; exact hzw
                have hz4 : sizeB wd ≤ 4 := by unfold sizeB; omega
                have ha32 : a < 4294967297 := Nat.lt_of_lt_of_le hga (Nat.le_trans (Nat.pow_le_pow_right (by decide : 2 > 0) h1) (by decide))
                have hV := Lib.hid (fun w1 => littleOf_any a (sizeB wd) w1 (by omega) (by omega))
                have hs7 : (seven (2 * j)).length ≤ 10 := seven_len (by omega)
                have hll : (little (sizeB wd) a).length ≤ 4 := by rw [little_len]; exact hz4
                have hac : IntKind.u64.wrap ((a : Nat) : Int) = (a : Int) := by rw [IntKind.wrap_u64]; omega
                have hdr : wq.heap.size = wq.drew.heap.size := rfl
                have hsk : (k : Int) < (L.length : Int) := by omega
                have s6 : IntKind.i64.wrap ((wd : Int) + 7) = (wd : Int) + 7 := IntWalk.i64_in _ (by omega)
                have s7' : IntKind.i64.wrap (2 * (j : Int)) = 2 * (j : Int) := IntWalk.i64_in _ (by omega)
                have s8 : IntKind.u64.wrap (2 * (j : Int)) = 2 * (j : Int) := by rw [IntKind.wrap_u64]; omega
                have s9 : 0 ≤ (wd : Int) + 7 := by omega
                have s10 : IntKind.i64.wrap ((sizeB wd : Nat) : Int) = ((sizeB wd : Nat) : Int) := IntWalk.i64_in _ (by omega)
                have hadd1 : ¬ 9223372036854775807 < bsF.length + (seven (2 * j)).length := by omega
                have hadd2 : ¬ 9223372036854775807 < bsF.length + (seven (2 * j)).length + (little (sizeB wd) a).length := by omega
                generalize sizeB wd = z at *
                generalize seven (2 * j) = s7 at *
                generalize little z a = ll at *
                clear hbs
                go_region_held3 (fun w' => w'.cell? ⟨b0, off + k, none⟩ = some (.int .i64 (a : Nat)))
                  (first | exact d0q | exact c05 | exact c06)
                  (first
                  | (go_at_call 48; (with_reducible refine (hU.out _).mono ?_); rintro e w5 ⟨rfl, hb5⟩
                     have hb5 : Below wq.heap.size wq w5 := (Below.refl wq.heap.size wq).drew.trans (hb5.mono (Nat.le_of_eq hdr))
                     have c05 := (hb5.cell (p := ⟨b0, off + k, none⟩) hb0q).trans d0q)
                  | (go_at_call 49; (with_reducible refine (hV.out _).mono ?_); rintro e w6 ⟨rfl, hb6⟩
                     have hb6 := below_trans hb5 hb6
                     have c06 := (hb6.cell (p := ⟨b0, off + k, none⟩) hb0q).trans d0q))
                clear s6 s7' s8 s9 s10 hac
                go_wp2_with fail
                go_roundw
                case rel =>
                  refine ⟨k + j, [], bsF ++ (s7 ++ ll), by go_num, ?_, own_below HF.out hb6, hbw.trans (hb6.mono hbw.size), by omega, by simp, by simp, by simp, by simp, ?_⟩
                  · rw [ByteArray.mk_append_mk, ByteArray.mk_append_mk, List.append_assoc]
                  · have := HE3.out
                    rw [← HR.out, List.drop_drop] at this
                    rw [← this]
                    simp only [List.append_assoc]
                case measure => simp [intOf]; omega
            · have hE2 := Heq.out
              rw [runsB_open wd a R' op (by rw [← HDj.out]; omega), ← HR.out, List.drop_drop, HR.out] at hE2
              have HE2 := Lib.hid hE2
              have hl8 : (op ++ pad8 (a :: R')).length = op.length + 8 := by rw [List.length_append, pad8_len]
              have Hl8 := Lib.hid hl8
              have d8 : decide ((j : Int) < 8) = true := by simp; omega
              have d8' : decide (j < 8) = true := by simp; omega
              have d9 : decide (8 ≤ (j : Int)) = false := by simp; omega
              have d9' : decide (8 ≤ j) = false := by simp; omega
              clear hE2 hl8
              go_wp2_with fail
              go_loopw [6, 9] (fun u i wr' => ∃ m : Nat, m ≤ 8 ∧ i = .int .i64 (m : Nat) ∧ wr'.ownsRow w.heap.size 3 1 u (op ++ (pad8 (a :: R')).take m).length ((op ++ (pad8 (a :: R')).take m).map natV) ∧ Below w.heap.size w wr') (fun _ i _ => 8 - (intOf i).toNat)
              case atStart => exact ⟨0, by omega, rfl, by simpa using Hownq.out, hbw⟩
              case round =>
                obtain ⟨m, hm, rfl, hownm, hbm⟩ := hrel
                have Hml := Lib.hid (show (op ++ (pad8 (a :: R')).take m).length = op.length + m by rw [List.length_append, List.length_take, pad8_len]; omega)
                have HO := Lib.hid (show m < 8 → op ++ (pad8 (a :: R')).take (m + 1) = op ++ (pad8 (a :: R')).take m ++ [(a :: R').getD m 0] from fun h => by rw [pad8_snoc _ _ h, List.append_assoc])
                obtain ⟨Om, hOm⟩ : ∃ Om, Om = op ++ (pad8 (a :: R')).take m := ⟨_, rfl⟩
                rw [← hOm] at Hml HO hownm
                have HOm := Lib.hid hOm; have Hom := Lib.hid hownm
                clear hOm hownm
                have hom : Om.length ≤ 1016 := by rw [Hml.out]; omega
                have h63 : Om.length + 1 ≤ maxLen := by unfold maxLen; omega
                have h64 : (Om.length + 1) * 8 ≤ 140737488355328 := by omega
                by_cases hm8 : (m < 8)
                · by_cases hin : (k + m < L.length)
                  · obtain ⟨x, hx⟩ : ∃ x, (a :: R')[m]? = some x := ⟨_, List.getElem?_eq_getElem (by rw [List.length_cons, HRl.out]; omega)⟩
                    have hcm := (hbm.cell (p := ⟨b0, off + (k + m), none⟩) hlt0).trans (Hcw.out m x hx)
                    have hgx : (a :: R').getD m 0 = x := by rw [List.getD_eq_getElem?_getD, hx]; rfl
                    have HO2 := Lib.hid (HO.out hm8)
                    rw [hgx] at HO2
                    clear hx hgx
                    go_wp2_with (at_builtin; refine wpList_push rfl _ _ 22 rfl w.heap.size 3 i0 (.int .i64 0) 8 Tryz.underlying22 hi hz0 hz1 hz2 rfl natV (fun _ => rfl) _ _ rfl Hom.out _ _ rfl h63 h64 hbm.size x rfl ?_; intro v' w2 hown' hb' hnn; have Ho' := Lib.hid hown'; clear hown')
                    go_roundw
                    case rel => exact ⟨m + 1, by omega, by go_num, by rw [HO2.out]; exact Ho'.out, hbm.trans hb'⟩
                    case measure => simp [intOf]; omega
                  · have hgx : (a :: R').getD m 0 = 0 := by rw [List.getD_eq_getElem?_getD, List.getElem?_eq_none (by rw [List.length_cons, HRl.out]; omega)]; rfl
                    have HO2 := Lib.hid (HO.out hm8)
                    rw [hgx] at HO2
                    clear hgx
                    go_wp2_with (at_builtin; refine wpList_push rfl _ _ 22 rfl w.heap.size 3 i0 (.int .i64 0) 8 Tryz.underlying22 hi hz0 hz1 hz2 rfl natV (fun _ => rfl) _ _ rfl Hom.out _ _ rfl h63 h64 hbm.size 0 rfl ?_; intro v' w2 hown' hb' hnn; have Ho' := Lib.hid hown'; clear hown')
                    go_roundw
                    case rel => exact ⟨m + 1, by omega, by go_num, by rw [HO2.out]; exact Ho'.out, hbm.trans hb'⟩
                    case measure => simp [intOf]; omega
                · obtain rfl : m = 8 := by omega
                  have hO8 : Om = op ++ pad8 (a :: R') := by rw [HOm.out, List.take_of_length_le (by rw [pad8_len]; omega)]
                  have hE3 := HE2.out
                  rw [← hO8] at hE3
                  have hOg : ∀ x ∈ Om, x < 2 ^ wd := by
                    rw [hO8]
                    intro x hx
                    rcases List.mem_append.1 hx with hx | hx
                    · exact Hog.out x hx
                    · rcases List.mem_append.1 hx with hx | hx
                      · exact HRg.out x (List.mem_of_mem_take hx)
                      · rw [(List.mem_replicate.1 hx).2]; exact Nat.pow_pos (by decide)
                  have HE3 := Lib.hid hE3; have HOg := Lib.hid hOg
                  clear hE3 hO8 hOg HO HOm
                  obtain ⟨adm, capm, rfl⟩ := own_form Hom.out
                  have hpos : 0 < Om.length := by rw [Hml.out]; omega
                  by_cases hfl : (k + 8 < L.length)
                  · go_wp2_with fail
                    go_roundw
                    case rel => exact ⟨k + 8, Om, bs, by go_num, rfl, Hom.out, hbm, by omega, by omega, by rw [Hml.out]; have := Ho8.out; omega, by rw [Hml.out]; omega, HOg.out, HE3.out⟩
                    case measure => simp [intOf]; omega
                  · rw [List.drop_eq_nil_of_le (by omega), runsB_nil] at HE3
                    obtain ⟨q, hq⟩ : ∃ q, Om.length = 8 * q := ⟨Om.length / 8, by have := Ho8.out; rw [Hml.out]; omega⟩
                    have hqi : ((Om.length : Nat) : Int) / 8 = (q : Int) := by omega
                    have hfl2 := flush_cons wd (List.length_pos_iff.1 hpos)
                    rw [hq, Nat.mul_div_cancel_left _ (by decide)] at hfl2
                    have hs7 : (seven (2 * q + 1)).length ≤ 10 := seven_len (by omega)
                    have hpk : (packed wd Om).length ≤ 5000 := by
                      rw [packed, bytesOf_len]
                      have : Om.length * wd ≤ 1016 * 32 := Nat.mul_le_mul hom h1
                      omega
                    have HS := Lib.hid (fun w1 => show Calls Tryz.prog 48 #[.int .u64 ((q : Int) * 2 + 1)] w1 fun e w' => e = .returned (.string ⟨(seven (2 * q + 1)).toArray⟩) ∧ Below w1.heap.size w1 w' by
                      have := sevenOf_any ((q : Int) * 2 + 1) w1 (by omega) (by omega)
                      rwa [show ((q : Int) * 2 + 1).toNat = 2 * q + 1 by omega] at this)
                    have HW := Lib.hid (fun w1 (h : IsInts w1 (.slice adm Om.length capm) (ints Om)) => wide_any _ (ints Om) w1 h (by simp [ints]; omega) (fun x hx => by
                      obtain ⟨n, hn, rfl⟩ := List.mem_map.1 hx
                      have h3 : (2 : Nat) ^ wd ≤ 2 ^ 32 := Nat.pow_le_pow_right (by decide) h1
                      have := HOg.out n hn
                      omega))
                    have HP := Lib.hid (fun u w1 h => packOf_any u Om wd w1 h h1 (by omega) HOg.out)
                    have Hfl := Lib.hid hfl2; have Hq := Lib.hid hq
                    clear hfl2 hq
                    go_wp2_with fail
                    refine (HS.out _).mono ?_; rintro e w1 ⟨rfl, hb1⟩
                    go_wp2_with fail
                    refine (HW.out w1 (nums_nat (own_below Hom.out hb1))).mono ?_; rintro e w2 ⟨⟨u, rfl, hu⟩, hb2⟩
                    have hN : IsNums .u64 w2 u (ints Om) := IsNums.of_own hu
                    clear hu
                    go_wp2_with fail
                    refine (HP.out u w2 hN).mono ?_; rintro e w3 ⟨rfl, hb3⟩
                    clear hN
                    have hb3 := below_trans (below_trans hb1 hb2) hb3
                    clear hb1 hb2
                    go_wp2_with fail
                    go_roundw
                    case rel =>
                      refine ⟨k + 8, [], bs ++ flush wd Om, by go_num, ?_, World.ownsRow_nil _ _ _ _, hbm.trans (hb3.mono hbm.size), by omega, by simp, by simp, by simp, by simp, ?_⟩
                      · rw [ByteArray.mk_append_mk, ByteArray.mk_append_mk, Hfl.out, List.append_assoc]
                      · rw [List.drop_eq_nil_of_le (by omega), runsB_nil, flush_nil, List.append_nil]; exact HE3.out
                    case measure => simp [intOf]; omega
    · have hop := Hend.out (by omega)
      have he := Heq.out
      rw [List.drop_eq_nil_of_le (by omega), runsB_nil, hop, flush_nil, List.append_nil] at he
      clear hop
      go_wp2_with fail
      go_ret
      exact ⟨ret_of (by rw [he]; rfl), hb⟩
end Go.Proofs.YtpbkmfnfcdhhjaaGreatDoor
