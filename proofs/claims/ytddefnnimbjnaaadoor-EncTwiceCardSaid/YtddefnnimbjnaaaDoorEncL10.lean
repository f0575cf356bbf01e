/- The walk of the statement EncTwice. -/
import Derived.Test.YtddefnnimbjnaaaDoorRdBe
import Derived.Test.YtddefnnimbjnaaaDoorMBest
import Derived.Test.YtddefnnimbjnaaaDoorMRef
namespace Go.Proofs.YtddefnnimbjnaaaDoor
set_option linter.unusedVariables false
open Go Go.RowKit Go.ChangeShapes

theorem tryS_cases (a : Int × List UInt8) (k : Int) (t : List UInt8) : tryS a k t = a ∨ tryS a k t = (k, t) := by
  unfold tryS; split
  · exact .inr rfl
  · exact .inl rfl
theorem tryS_le (a : Int × List UInt8) (k : Int) (t : List UInt8) : (tryS a k t).2.length ≤ t.length := by
  unfold tryS; split
  · exact Nat.le_refl _
  · rename_i h; exact Nat.le_of_not_lt h
theorem best1_cases (kind : Int) (l : List Val) : best1 kind l = (0, plainB kind l) ∨ best1 kind l = (1, dictB kind l) := tryS_cases _ _ _
theorem bestB_cases (kind : Int) (l : List Val) : bestB kind l = (0, plainB kind l) ∨ bestB kind l = (1, dictB kind l) ∨ ((kind = 2 ∨ kind = 3) ∧ bestB kind l = (2, deltaB (numsI l))) ∨ (kind = 4 ∧ bestB kind l = (3, prefixB [] (bytesL (strsV l)))) := by
  have h1 := best1_cases kind l
  unfold bestB best2
  by_cases h4 : kind = 4
  · rw [if_pos h4, if_neg (by omega)]
    rcases tryS_cases (best1 kind l) 3 (prefixB [] (bytesL (strsV l))) with h | h
    · rw [h]
      rcases h1 with h1 | h1
      · exact .inl h1
      · exact .inr (.inl h1)
    · exact .inr (.inr (.inr ⟨h4, h⟩))
  · rw [if_neg h4]
    by_cases hk : kind = 2 ∨ kind = 3
    · rw [if_pos hk]
      rcases tryS_cases (best1 kind l) 2 (deltaB (numsI l)) with h | h
      · rw [h]
        rcases h1 with h1 | h1
        · exact .inl h1
        · exact .inr (.inl h1)
      · exact .inr (.inr (.inl ⟨hk, h⟩))
    · rw [if_neg hk]
      rcases h1 with h1 | h1
      · exact .inl h1
      · exact .inr (.inl h1)
theorem bestB_le (kind : Int) (l : List Val) : (bestB kind l).2.length ≤ (plainB kind l).length ∧ (bestB kind l).2.length ≤ (dictB kind l).length ∧ (kind = 2 ∨ kind = 3 → (bestB kind l).2.length ≤ (deltaB (numsI l)).length) := by
  have a1 : (best1 kind l).2.length ≤ (plainB kind l).length := tryS_len (0, plainB kind l) 1 _
  have a2 : (best1 kind l).2.length ≤ (dictB kind l).length := tryS_le _ _ _
  have b1 : (best2 kind l).2.length ≤ (best1 kind l).2.length := by
    unfold best2; split
    · exact tryS_len _ _ _
    · exact Nat.le_refl _
  have b2 : (kind = 2 ∨ kind = 3) → (best2 kind l).2.length ≤ (deltaB (numsI l)).length := fun hk => by
    unfold best2; rw [if_pos hk]; exact tryS_le _ _ _
  have c1 : (bestB kind l).2.length ≤ (best2 kind l).2.length := by
    unfold bestB; split
    · exact tryS_len _ _ _
    · exact Nat.le_refl _
  exact ⟨by omega, by omega, fun hk => by have := b2 hk; omega⟩
theorem dictB_len300 {kind : Int} {l : List Val} (hl : l.length ≤ 300) (hO : ∀ x ∈ l, x.Ok) (hP : ∀ x ∈ l, OkP kind x) : (dictB kind l).length ≤ 100000 := by
  obtain ⟨uO, uP⟩ := unlike_right hO hP
  have hul := (unlikeV_len l []).2
  have hpl := placesV_len l []
  rw [List.length_nil, Nat.zero_add] at hul
  have hplen := plainB_len kind (unlikeV [] l) fun h4 x hx => ((uP x hx).text h4).2
  have hrl := runsB_len (placeW (unlikeV [] l).length) (placeW_le (by omega)) _ (placesV [] l) [] rfl (by simp; omega)
  rw [List.length_nil, hpl] at hrl
  have hs7 := seven_len (show (unlikeV [] l).length < 18446744073709551616 by omega)
  have hs8 := seven_len (show (plainB kind (unlikeV [] l)).length < 18446744073709551616 by omega)
  unfold dictB textOf
  rw [List.length_append, List.length_append, List.length_append]
  omega
theorem textsV_strs {l : List Val} (h : ∀ x ∈ l, OkP 4 x) : textsV (bytesL (strsV l)) = l := by
  unfold textsV bytesL strsV
  rw [List.map_map, List.map_map]
  refine (List.map_congr_left fun x hx => ?_).trans (List.map_id' l)
  exact textV_of (h x hx)
/-- what a reader tells of what was written -/
def Got (l : List Val) (e : Ending) (w' : World) : Prop := ∃ u, e = .returned (.tuple #[u, .nilIface]) ∧ IsVals w' u l
theorem Got.of_rd {ev : Value} {B : Nat} {r : Option (List Val)} {l : List Val} {e : Ending} {w' : World} (h : RdRet ev B r e w') (hr : r = some l) : Got l e w' := by
  subst hr
  obtain ⟨u, he, ho⟩ := h
  exact ⟨u, he, IsVals.of_own ho⟩
theorem mk_list (X : List UInt8) : (ByteArray.mk X.toArray).data.toList = X := by simp
theorem mk_size (X : List UInt8) : (ByteArray.mk X.toArray).size = X.length := by show X.toArray.size = _; simp
theorem got_plain {kind : Int} (h1 : 1 ≤ kind) (h5 : kind ≤ 5) (l : List Val) (hl : l.length ≤ 300) (hO : ∀ x ∈ l, x.Ok) (hP : ∀ x ∈ l, OkP kind x) (T : TypeId) (x : Value) (w : World) (hev : w.cell? ⟨1, 0, none⟩ = some (.iface T x)) :
    Calls Tryd.prog 29 #[.int .i64 kind, .string ⟨(plainB kind l).toArray⟩, .int .i64 (l.length : Nat)] w fun e w' => Got l e w' ∧ Below w.heap.size w w' := by
  have hpl := plainB_len kind l fun h4 x hx => ((hP x hx).text h4).2
  refine (readPlain_any kind ⟨(plainB kind l).toArray⟩ l.length T x w h1 h5 (by omega) (by rw [mk_size]; omega) hev).mono ?_
  rintro e w' ⟨hr, hb⟩
  exact ⟨Got.of_rd hr (by rw [mk_list]; exact readP_plain h1 h5 l hO hP), hb⟩
theorem got_dict {kind : Int} (h1 : 1 ≤ kind) (h5 : kind ≤ 5) (l : List Val) (hl : l.length ≤ 300) (hO : ∀ x ∈ l, x.Ok) (hP : ∀ x ∈ l, OkP kind x) (T : TypeId) (x : Value) (w : World) (hev : w.cell? ⟨1, 0, none⟩ = some (.iface T x)) :
    Calls Tryd.prog 39 #[.int .i64 kind, .string ⟨(dictB kind l).toArray⟩, .int .i64 (l.length : Nat)] w fun e w' => Got l e w' ∧ Below w.heap.size w w' := by
  refine (readDict_any kind ⟨(dictB kind l).toArray⟩ l.length T x w h1 h5 (by omega) (by rw [mk_size]; exact dictB_len300 hl hO hP) hev).mono ?_
  rintro e w' ⟨hr, hb⟩
  exact ⟨Got.of_rd hr (by rw [mk_list]; exact readDi_dict h1 h5 l hl hO hP), hb⟩
theorem deltaB_300 {l : List Val} (hl : l.length ≤ 300) (hO : ∀ x ∈ l, x.Ok) : (deltaB (numsI l)).length ≤ 100000 := by
  have hdl := deltaB_len (numsI l) (fun x hx => by
    obtain ⟨y, hy, rfl⟩ := List.mem_map.1 hx
    exact ⟨(hO y hy).n0, (hO y hy).n1⟩)
  have hLl : (numsI l).length = l.length := by unfold numsI; rw [List.length_map]
  omega
theorem got_delta {kind : Int} (hk : kind = 2 ∨ kind = 3) (l : List Val) (hl : l.length ≤ 300) (hO : ∀ x ∈ l, x.Ok) (hP : ∀ x ∈ l, OkP kind x) (T : TypeId) (x : Value) (w : World) (adr : Nat → Addr) (hE : ErrsAt w adr [2, 4]) (hev : w.cell? ⟨1, 0, none⟩ = some (.iface T x)) :
    Calls Tryd.prog 30 #[.int .i64 kind, .string ⟨(deltaB (numsI l)).toArray⟩, .int .i64 (l.length : Nat)] w fun e w' => Got l e w' ∧ Below w.heap.size w w' := by
  refine (readDelta_any kind hk ⟨(deltaB (numsI l)).toArray⟩ l.length T x w adr hE (by omega) (by rw [mk_size]; exact deltaB_300 hl hO) hev).mono ?_
  rintro e w' ⟨hr, hb⟩
  exact ⟨Got.of_rd hr (by rw [mk_list]; exact readD_delta hk l hO hP), hb⟩
theorem got_best {kind : Int} (h1 : 1 ≤ kind) (h5 : kind ≤ 5) (l : List Val) (hl : l.length ≤ 300) (hO : ∀ x ∈ l, x.Ok) (hP : ∀ x ∈ l, OkP kind x) (T : TypeId) (x : Value) (w : World) (adr : Nat → Addr) (hE : ErrsAt w adr [2, 4]) (hev : w.cell? ⟨1, 0, none⟩ = some (.iface T x)) :
    Calls Tryd.prog 40 #[.int .i64 kind, .int .i64 (bestB kind l).1, .string ⟨(bestB kind l).2.toArray⟩, .int .i64 (l.length : Nat)] w fun e w' => Got l e w' ∧ Below w.heap.size w w' := by
  have hpl := plainB_len kind l fun h4 x hx => ((hP x hx).text h4).2
  rcases bestB_cases kind l with h | h | ⟨hk, h⟩ | ⟨h4, h⟩
  · rw [h]
    refine (readBest_0 kind ⟨(plainB kind l).toArray⟩ l.length _ _ w h1 h5 (by omega) (readPlain_any kind ⟨(plainB kind l).toArray⟩ l.length T x w h1 h5 (by omega) (by rw [mk_size]; omega) hev)).mono ?_
    rintro e w' ⟨hr, hb⟩
    exact ⟨Got.of_rd hr (by rw [mk_list]; exact readP_plain h1 h5 l hO hP), hb⟩
  · rw [h]
    refine (readBest_1 kind ⟨(dictB kind l).toArray⟩ l.length _ _ w h1 h5 (by omega) (readDict_any kind ⟨(dictB kind l).toArray⟩ l.length T x w h1 h5 (by omega) (by rw [mk_size]; exact dictB_len300 hl hO hP) hev)).mono ?_
    rintro e w' ⟨hr, hb⟩
    exact ⟨Got.of_rd hr (by rw [mk_list]; exact readDi_dict h1 h5 l hl hO hP), hb⟩
  · rw [h]
    refine (readBest_2 kind hk ⟨(deltaB (numsI l)).toArray⟩ l.length _ _ w (by omega) (readDelta_any kind hk ⟨(deltaB (numsI l)).toArray⟩ l.length T x w adr hE (by omega) (by rw [mk_size]; exact deltaB_300 hl hO) hev)).mono ?_
    rintro e w' ⟨hr, hb⟩
    exact ⟨Got.of_rd hr (by rw [mk_list]; exact readD_delta hk l hO hP), hb⟩
  · rw [h]
    subst h4
    have hs100 : ∀ x ∈ bytesL (strsV l), x.length ≤ 100 := fun x hx => by
      obtain ⟨y, hy, rfl⟩ := List.mem_map.1 hx
      obtain ⟨z, hz, rfl⟩ := List.mem_map.1 hy
      rw [size_data]; exact ((hP z hz).text rfl).2
    have hbl : (bytesL (strsV l)).length = l.length := by unfold bytesL strsV; rw [List.length_map, List.length_map]
    have hpf := prefixB_len (bytesL (strsV l)) [] hs100
    refine (readBest_3 ⟨(prefixB [] (bytesL (strsV l))).toArray⟩ l.length T x w (by omega) (by rw [mk_size]; omega) hev).mono ?_
    rintro e w' ⟨hr, hb⟩
    refine ⟨Got.of_rd hr ?_, hb⟩
    rw [mk_list, ← hbl, readX_prefix _ hs100, Option.map_some, textsV_strs hP]

set_option maxRecDepth 100000 in
set_option maxHeartbeats 4000000 in
theorem encTwice_law {w : World} (kind : Int) (k0 : -9223372036854775808 ≤ kind) (k1 : kind < 9223372036854775808) (v : Value) (a : List Val) (I : IsVals w v a) (fa : FitsV a)
    (hL : laidMetH Tryd.prog Rows.encTwiceRow.laid w) :
    Calls Tryd.prog 12 #[.int .i64 kind, v] w fun e w' => e = .returned (.bool true) ∧ Below w.heap.size w w' := by
  obtain ⟨adr, hE⟩ := errsAt_of_laid [1, 2, 3, 4] rfl hL
  have HE := Lib.hid hE
  have HI := Lib.hid I
  have HSa := Lib.hid (fun w1 h => small_any v a w1 h fa.1 fa.2)
  have HVa := Lib.hid (fun (h : a.length ≤ 300) w1 h1 => values_any v a w1 h1 (by omega))
  have Hf2 := Lib.hid fa.2
  have la := fa.1
  unfold maxLen at la
  obtain ⟨ad, cap, rfl⟩ := I.form
  clear hL hE fa I
  by_cases hn : valsErr kind a = .nil
  · have HN := Lib.hid hn
    obtain ⟨h1, h5, hl20, hP⟩ := valsErr_nil hn
    have HP := Lib.hid hP
    clear hn hP
    have HPl := Lib.hid (fun x w1 (h : Below w.heap.size w w1 ∧ IsVals w1 x a) => Plain_ok kind x a w1 adr ((HE.out.below h.1).sub rfl) h.2 Hf2.out HN.out)
    have HDi := Lib.hid (fun (h3 : a.length ≤ 300) x w1 (h : IsVals w1 x a) => dict_ok kind x a w1 h (by omega) Hf2.out HN.out)
    have HBe := Lib.hid (fun (h3 : a.length ≤ 300) x w1 (h : Below w.heap.size w w1 ∧ IsVals w1 x a) => best_ok kind x a w1 adr ((HE.out.below h.1).sub rfl) h.2 (by omega) Hf2.out HN.out)
    have HDe := Lib.hid (fun (hk : kind = 2 ∨ kind = 3) x w1 (h : IsVals w1 x a) => delta_ok kind hk x a w1 h Hf2.out HN.out)
    have HRP := Lib.hid (fun (h3 : a.length ≤ 300) w1 (h : Below w.heap.size w w1) => got_plain h1 h5 a h3 Hf2.out HP.out _ _ w1 ((HE.out.below h).cell 1 (by decide)))
    have HRD := Lib.hid (fun (h3 : a.length ≤ 300) w1 (h : Below w.heap.size w w1) => got_dict h1 h5 a h3 Hf2.out HP.out _ _ w1 ((HE.out.below h).cell 1 (by decide)))
    have HRB := Lib.hid (fun (h3 : a.length ≤ 300) w1 (h : Below w.heap.size w w1) => got_best h1 h5 a h3 Hf2.out HP.out _ _ w1 adr ((HE.out.below h).sub rfl) ((HE.out.below h).cell 1 (by decide)))
    have HRL := Lib.hid (fun (hk : kind = 2 ∨ kind = 3) (h3 : a.length ≤ 300) w1 (h : Below w.heap.size w w1) => got_delta hk a h3 Hf2.out HP.out _ _ w1 adr ((HE.out.below h).sub rfl) ((HE.out.below h).cell 1 (by decide)))
    have hsm : a.length ≤ maxLen := by unfold maxLen; omega
    have hss : sameB a a = true := (sameB_iff a a).2 rfl
    have HSv := Lib.hid (fun x w1 (h : IsVals w1 x a) (h2 : IsVals w1 (.slice ad a.length cap) a) => show Calls Tryd.prog 19 #[x, .slice ad a.length cap] w1 fun e w' => e = .returned (.bool true) ∧ Below w1.heap.size w1 w' from by
      have h' := sameValues_any x (.slice ad a.length cap) a a w1 h h2 hsm hsm
      rwa [hss] at h')
    obtain ⟨hle1, hle2, hle3⟩ := bestB_le kind a
    have HL3 := Lib.hid hle3
    clear hle3 hsm hss
    generalize plainB kind a = pb at *
    generalize dictB kind a = db at *
    generalize deltaB (numsI a) = dl at *
    generalize (bestB kind a).2 = bs at *
    generalize (bestB kind a).1 = bc at *
    have hp1 : (bs.length : Int) ≤ (pb.length : Int) := by omega
    have hp2 : (bs.length : Int) ≤ (db.length : Int) := by omega
    clear hle1 hle2
    go_enter Tryd.func12, Tryd.ntmps12
    go_wp2_with fail
    refine (four_any _).mono ?_; rintro e w1 ⟨rfl, hb1⟩
    go_wp2_with fail
    refine (HSa.out w1 (HI.out.below hb1 (Nat.le_refl _))).mono ?_; rintro e w1 ⟨⟨sa, rfl, hsa⟩, rfl⟩
    cases sa with
    | false =>
      go_wp2_with fail
      go_ret
      exact ⟨rfl, hb1⟩
    | true =>
    have ha := hsa rfl
    have Hha := Lib.hid ha
    have Hb1 := Lib.hid hb1
    clear hsa ha hb1
    go_wp2_with fail
    refine (HVa.out Hha.out w1 (HI.out.below Hb1.out (Nat.le_refl _))).mono ?_; rintro e w2 ⟨⟨x1, rfl, hX⟩, hb⟩
    have X_2 := Lib.hid hX
    have Hb2 := Lib.hid (below_trans Hb1.out hb)
    clear hb hX
    go_wp2_with fail
    refine (HPl.out x1 w2 ⟨Hb2.out, X_2.out⟩).mono ?_; rintro e w3 ⟨rfl, hb⟩
    have Hb3 := Lib.hid (below_trans Hb2.out hb)
    clear hb
    go_wp2_with fail
    refine (HRP.out Hha.out w3 Hb3.out).mono ?_; rintro e w4 ⟨⟨uA, rfl, hUA⟩, hb⟩
    have UA_4 := Lib.hid hUA
    have Hb4 := Lib.hid (below_trans Hb3.out hb)
    clear hb hUA
    go_wp2_with fail
    refine (HVa.out Hha.out w4 (HI.out.below Hb4.out (Nat.le_refl _))).mono ?_; rintro e w5 ⟨⟨x2, rfl, hX⟩, hb⟩
    have UA_5 := Lib.hid (UA_4.out.below hb (Nat.le_refl _))
    have X_5 := Lib.hid hX
    have Hb5 := Lib.hid (below_trans Hb4.out hb)
    clear hb hX
    go_wp2_with fail
    refine (HDi.out Hha.out x2 w5 X_5.out).mono ?_; rintro e w6 ⟨rfl, hb⟩
    have UA_6 := Lib.hid (UA_5.out.below hb (Nat.le_refl _))
    have Hb6 := Lib.hid (below_trans Hb5.out hb)
    clear hb
    go_wp2_with fail
    refine (HRD.out Hha.out w6 Hb6.out).mono ?_; rintro e w7 ⟨⟨uB, rfl, hUB⟩, hb⟩
    have UA_7 := Lib.hid (UA_6.out.below hb (Nat.le_refl _))
    have UB_7 := Lib.hid hUB
    have Hb7 := Lib.hid (below_trans Hb6.out hb)
    clear hb hUB
    go_wp2_with fail
    refine (HSv.out uA w7 UA_7.out (HI.out.below Hb7.out (Nat.le_refl _))).mono ?_; rintro e w8 ⟨rfl, hb⟩
    have UB_8 := Lib.hid (UB_7.out.below hb (Nat.le_refl _))
    have Hb8 := Lib.hid (below_trans Hb7.out hb)
    clear hb
    go_wp2_with fail
    refine (HSv.out uB w8 UB_8.out (HI.out.below Hb8.out (Nat.le_refl _))).mono ?_; rintro e w9 ⟨rfl, hb⟩
    have Hb9 := Lib.hid (below_trans Hb8.out hb)
    clear hb
    go_wp2_with fail
    refine (HVa.out Hha.out w9 (HI.out.below Hb9.out (Nat.le_refl _))).mono ?_; rintro e w10 ⟨⟨x3, rfl, hX⟩, hb⟩
    have X_10 := Lib.hid hX
    have Hb10 := Lib.hid (below_trans Hb9.out hb)
    clear hb hX
    go_wp2_with fail
    refine (HBe.out Hha.out x3 w10 ⟨Hb10.out, X_10.out⟩).mono ?_; rintro e w11 ⟨rfl, hb⟩
    have Hb11 := Lib.hid (below_trans Hb10.out hb)
    clear hb
    go_wp2_with fail
    refine (HRB.out Hha.out w11 Hb11.out).mono ?_; rintro e w12 ⟨⟨uC, rfl, hUC⟩, hb⟩
    have UC_12 := Lib.hid hUC
    have Hb12 := Lib.hid (below_trans Hb11.out hb)
    clear hb hUC
    go_wp2_with fail
    refine (HSv.out uC w12 UC_12.out (HI.out.below Hb12.out (Nat.le_refl _))).mono ?_; rintro e w13 ⟨rfl, hb⟩
    have Hb13 := Lib.hid (below_trans Hb12.out hb)
    clear hb
    by_cases hk : kind = 2 ∨ kind = 3
    · have hp3 : (bs.length : Int) ≤ (dl.length : Int) := by have := HL3.out hk; omega
      have Hk := Lib.hid hk
      rcases hk with rfl | rfl
      all_goals
        go_wp2_with fail
        refine (HVa.out Hha.out w13 (HI.out.below Hb13.out (Nat.le_refl _))).mono ?_; rintro e w14 ⟨⟨x4, rfl, hX⟩, hb⟩
        have X_14 := Lib.hid hX
        have Hb14 := Lib.hid (below_trans Hb13.out hb)
        clear hb hX
        go_wp2_with fail
        refine (HDe.out Hk.out x4 w14 X_14.out).mono ?_; rintro e w15 ⟨rfl, hb⟩
        have Hb15 := Lib.hid (below_trans Hb14.out hb)
        clear hb
        go_wp2_with fail
        refine (HRL.out Hk.out Hha.out w15 Hb15.out).mono ?_; rintro e w16 ⟨⟨uX, rfl, hUX⟩, hb⟩
        have UX_16 := Lib.hid hUX
        have Hb16 := Lib.hid (below_trans Hb15.out hb)
        clear hb hUX
        go_wp2_with fail
        refine (HSv.out uX w16 UX_16.out (HI.out.below Hb16.out (Nat.le_refl _))).mono ?_; rintro e w17 ⟨rfl, hb⟩
        have Hb17 := Lib.hid (below_trans Hb16.out hb)
        clear hb
        go_wp2_with fail
        go_ret
        exact ⟨rfl, Hb17.out⟩
    · have d2 : (kind != 2) = true := by rw [bne_iff_ne]; exact fun h => hk (.inl h)
      have d3 : (kind != 3) = true := by rw [bne_iff_ne]; exact fun h => hk (.inr h)
      clear hk
      go_wp2_with fail
      go_ret
      exact ⟨rfl, Hb13.out⟩
  · have HPe := Lib.hid (fun x w1 (h : Below w.heap.size w w1 ∧ IsVals w1 x a) => Plain_err kind x a w1 adr ((HE.out.below h.1).sub rfl) h.2 Hf2.out hn)
    have HN := Lib.hid hn
    clear hn
    go_enter Tryd.func12, Tryd.ntmps12
    go_wp2_with fail
    refine (four_any _).mono ?_; rintro e w1 ⟨rfl, hb1⟩
    go_wp2_with fail
    refine (HSa.out w1 (HI.out.below hb1 (Nat.le_refl _))).mono ?_; rintro e w1 ⟨⟨sa, rfl, hsa⟩, rfl⟩
    cases sa with
    | false =>
      go_wp2_with fail
      go_ret
      exact ⟨rfl, hb1⟩
    | true =>
    have ha := hsa rfl
    have Hha := Lib.hid ha
    have Hb1 := Lib.hid hb1
    clear hsa ha hb1
    go_wp2_with fail
    refine (HVa.out Hha.out w1 (HI.out.below Hb1.out (Nat.le_refl _))).mono ?_; rintro e w2 ⟨⟨x1, rfl, hX⟩, hb⟩
    have X_2 := Lib.hid hX
    have Hb2 := Lib.hid (below_trans Hb1.out hb)
    clear hb hX
    go_wp2_with fail
    refine (HPe.out x1 w2 ⟨Hb2.out, X_2.out⟩).mono ?_; rintro e w3 ⟨⟨y, rfl, hy⟩, hb⟩
    have Hb3 := Lib.hid (below_trans Hb2.out hb)
    obtain ⟨T, b, rfl, hT⟩ := hy.some' HN.out
    clear hb hy
    rcases hT with rfl | rfl
    all_goals
      go_wp2_with fail
      go_ret
      exact ⟨rfl, Hb3.out⟩
end Go.Proofs.YtddefnnimbjnaaaDoor
