/- The walks of enc.Dict, the document's DictOf and the statement EncDict. -/
import Derived.Test.YtddefnnimbjnaaaDoorDictW1
import Derived.Test.YtddefnnimbjnaaaDoorEncW7
import Derived.Test.YtddefnnimbjnaaaDoorRunsW2
import Derived.Test.YtddefnnimbjnaaaDoorRunsOf
import Derived.Test.YtddefnnimbjnaaaDoorValArgs
import Derived.Test.YtddefnnimbjnaaaDoorEnv
namespace Go.Proofs.YtddefnnimbjnaaaDoor
set_option linter.unusedVariables false
open Go Go.RowKit Go.ChangeShapes

theorem bitLenAux_up7 : ∀ f x, x < 2 ^ f → x < 2 ^ Lib.bitLenAux f x
  | 0, x, h => by simpa [Lib.bitLenAux] using h
  | f + 1, x, h => by
    unfold Lib.bitLenAux
    by_cases h0 : x = 0
    · rw [if_pos h0]; omega
    · rw [if_neg h0]
      have := bitLenAux_up7 f (x / 2) (by rw [Nat.pow_succ] at h; omega)
      rw [Nat.pow_add, Nat.pow_one]
      omega
theorem bitLen_up7 {x : Nat} (h : x < 18446744073709551616) : x < 2 ^ Lib.bitLen x := bitLenAux_up7 64 x (by simpa using h)
theorem placeW_le {n : Nat} (h : n ≤ 20000) : placeW n ≤ 32 := Lib.bitLen_le _ 32 (by omega) (by omega)
theorem placeW_fits {n x : Nat} (h : n ≤ 20000) (hx : x < n) : x < 2 ^ placeW n := Nat.lt_of_le_of_lt (show x ≤ n - 1 by omega) (bitLen_up7 (by omega))
theorem own_capped {w : World} {B n : Nat} {e : TypeId} {v : Value} {xs : List Value} (h : w.ownsRow B e 1 v n xs) : Capped v := by
  intro ad m cap hv
  rcases h.2 with ⟨rfl, h0⟩ | ⟨g, cap', cur, rfl, _, _, h1, _⟩
  · injection hv with _ h2 h3
    omega
  · injection hv with _ h2 h3
    omega

/-- what is known of the unlike ones of right values -/
theorem unlike_right {kind : Int} {l : List Val} (hO : ∀ x ∈ l, x.Ok) (hP : ∀ x ∈ l, OkP kind x) : (∀ x ∈ unlikeV [] l, x.Ok) ∧ (∀ x ∈ unlikeV [] l, OkP kind x) := by
  constructor
  · intro x hx; rcases unlikeV_mem l [] x hx with h | h
    · cases h
    · exact hO x h
  · intro x hx; rcases unlikeV_mem l [] x hx with h | h
    · cases h
    · exact hP x h

set_option maxRecDepth 100000 in
set_option maxHeartbeats 1000000 in
theorem dict_err (kind : Int) (v : Value) (l : List Val) (w : World) (adr : Nat → Addr) (hE : ErrsAt w adr [2, 4]) (hI : IsVals w v l) (hO : ∀ x ∈ l, x.Ok) (hn : valsErr kind l ≠ .nil) :
    Calls Tryd.prog 35 #[.int .i64 kind, v] w fun e w' => (∃ u, e = .returned (.tuple #[.string ⟨#[]⟩, u]) ∧ IsErr w' adr (valsErr kind l) u) ∧ Below w.heap.size w w' := by
  have HC := Lib.hid (check_any kind v l w adr hE hI hO)
  have HN := Lib.hid hn
  obtain ⟨ad, cap, rfl⟩ := hI.form
  clear hI hO hE hn
  go_enter Tryd.func35, Tryd.ntmps35
  go_wp2_with fail
  refine HC.out.mono ?_; rintro e w1 ⟨⟨u, rfl, hu⟩, hb1⟩
  have HU := Lib.hid hu
  obtain ⟨T, a, rfl, hT⟩ := hu.some' HN.out
  clear hu
  rcases hT with rfl | rfl
  all_goals
    go_wp2_with fail
    go_ret2
    exact ⟨⟨_, rfl, HU.out⟩, hb1⟩

set_option maxRecDepth 100000 in
set_option maxHeartbeats 1000000 in
theorem placeWidth_any (n : Nat) (hn : n ≤ 20000) (w : World) :
    Calls Tryd.prog 75 #[.int .i64 (n : Nat)] w fun e w' => e = .returned (.int .i64 ((placeW n : Nat) : Int)) ∧ w' = w := by
  by_cases h : n < 2
  · have hp : placeW n = 0 := by unfold placeW; rw [show n - 1 = 0 by omega]; rfl
    rw [hp]
    have d1 : decide ((n : Int) < 2) = true := by simp; omega
    clear h hp
    go_enter Tryd.func75, Tryd.ntmps75
    go_wp2_with fail
    go_ret
    exact ⟨rfl, rfl⟩
  · obtain ⟨m, rfl⟩ : ∃ m, n = m + 1 := ⟨n - 1, by omega⟩
    have HW := Lib.hid (fun w1 => show Calls Tryd.prog 68 #[.int .u64 ((m : Nat) : Int)] w1 fun e w' => e = .returned (.int .i64 ((placeW (m + 1) : Nat) : Int)) ∧ w' = w1 from widthOf_any m (by omega) w1)
    generalize placeW (m + 1) = pw at *
    have d1 : decide (((m + 1 : Nat) : Int) < 2) = false := by simp; omega
    have d2 : ¬ (m : Int) + 1 < 2 := by omega
    clear h
    go_enter Tryd.func75, Tryd.ntmps75
    go_wp2_with fail
    refine (HW.out _).mono ?_; rintro e w1 ⟨rfl, hw1⟩
    subst hw1
    go_wp2_with fail
    go_ret
    exact ⟨rfl, rfl⟩

set_option maxRecDepth 100000 in
set_option maxHeartbeats 4000000 in
theorem dict_ok (kind : Int) (v : Value) (l : List Val) (w : World) (hI : IsVals w v l) (hl : l.length ≤ 1000) (hO : ∀ x ∈ l, x.Ok) (hn : valsErr kind l = .nil) :
    Calls Tryd.prog 35 #[.int .i64 kind, v] w fun e w' => e = .returned (.tuple #[.string ⟨(dictB kind l).toArray⟩, .nilIface]) ∧ Below w.heap.size w w' := by
  obtain ⟨h1, h5, _, hP⟩ := valsErr_nil hn
  have HC := Lib.hid (check_vals kind v l w hI h1 h5 (by omega) hO hP)
  have HUn := Lib.hid (fun w1 h => unlike_any v l w1 h (by omega) hO)
  obtain ⟨uO, uP⟩ := unlike_right hO hP
  have hul := (unlikeV_len l []).2
  have hpl := placesV_len l []
  have hplt := placesV_lt l []
  have hdb : dictB kind l = seven (unlikeV [] l).length ++ textOf (plainB kind (unlikeV [] l)) ++ runsB (placeW (unlikeV [] l).length) (placesV [] l) [] := rfl
  rw [List.length_nil, Nat.zero_add] at hul
  have HI := Lib.hid hI
  obtain ⟨ad, cap, rfl⟩ := hI.form
  generalize unlikeV [] l = u at *
  generalize placesV [] l = pp at *
  have hu1000 : u.length ≤ 1000 := by omega
  have HPr := Lib.hid (fun vs w1 h => plain_right kind vs u w1 h (by omega) uO h1 h5 uP)
  have hplen := plainB_len kind u fun h4 x hx => ((uP x hx).text h4).2
  have HWi := Lib.hid (fun w1 => show Calls Tryd.prog 72 #[.int .i64 ((u.length : Int) - 1)] w1 fun e w' => e = .returned (.int .i64 ((placeW u.length : Nat) : Int)) ∧ w' = w1 from by
    have h := width_any ((u.length : Int) - 1) (by omega) (by omega) w1
    rwa [show ((u.length : Int) - 1).toNat = u.length - 1 by omega] at h)
  have HRn := Lib.hid (fun ps w1 h hc => runs_any ps pp (placeW u.length) w1 h hc (placeW_le (by omega)) (by omega) fun x hx => placeW_fits (by omega) (hplt x hx))
  have hrl := runsB_len (placeW u.length) (placeW_le (by omega)) _ pp [] rfl (by simp; omega)
  rw [List.length_nil, hpl] at hrl
  have HSv := Lib.hid (fun w1 => show Calls Tryd.prog 52 #[.int .u64 ((u.length : Nat) : Int)] w1 fun e w' => e = .returned (.string ⟨(seven u.length).toArray⟩) ∧ Below w1.heap.size w1 w' from uvarint_any _ w1 (by omega) (by omega))
  have hs7 := seven_len (show u.length < 18446744073709551616 by omega)
  have hps : (ByteArray.mk (plainB kind u).toArray).size = (plainB kind u).length := by show (plainB kind u).toArray.size = _; simp
  have HTx := Lib.hid (fun w1 => show Calls Tryd.prog 53 #[.string ⟨(plainB kind u).toArray⟩] w1 fun e w' => e = .returned (.string ⟨(textOf (plainB kind u)).toArray⟩) ∧ Below w1.heap.size w1 w' from by
    have h := text_any ⟨(plainB kind u).toArray⟩ w1 (by rw [hps]; omega)
    simpa using h)
  have htl : (textOf (plainB kind u)).length ≤ 200000 := by
    unfold textOf
    have := seven_len (show (plainB kind u).length < 18446744073709551616 by omega)
    rw [List.length_append]; omega
  rw [hdb]
  clear hI hO hn h1 h5 hP uO uP hul hpl hplt hdb hplen hps
  generalize placeW u.length = pw at *
  generalize seven u.length = s7 at *
  generalize textOf (plainB kind u) = tx at *
  generalize plainB kind u = pb at *
  generalize runsB pw pp [] = rb at *
  have hadd1 : ¬ 9223372036854775807 < s7.length + tx.length := by omega
  have hadd2 : ¬ 9223372036854775807 < s7.length + tx.length + rb.length := by omega
  have hw64 : IntKind.u64.wrap ((u.length : Nat) : Int) = ((u.length : Nat) : Int) := by rw [IntKind.wrap_u64]; omega
  go_enter Tryd.func35, Tryd.ntmps35
  go_wp2_with fail
  refine HC.out.mono ?_; rintro e w1 ⟨rfl, hb1⟩
  go_wp2_with fail
  refine (HUn.out w1 (HI.out.below hb1 (Nat.le_refl _))).mono ?_; rintro e w2 ⟨⟨vs, ps, rfl, hvs, hps⟩, hb2⟩
  have hb2 := below_trans hb1 hb2
  clear hb1
  have hVs := IsVals.of_own hvs
  obtain ⟨adV, capV, hV⟩ := hVs.form
  subst hV
  have HVs := Lib.hid hVs; have HIs := Lib.hid (nums_nat hps); have HCp := Lib.hid (own_capped hps)
  clear hVs hvs hps
  go_wp2_with fail
  refine (HWi.out w2).mono ?_; rintro e w3 ⟨rfl, hw3⟩
  subst hw3
  go_wp2_with fail
  refine (HRn.out _ _ HIs.out HCp.out).mono ?_; rintro e w4 ⟨rfl, hb4⟩
  have HVs4 := Lib.hid (HVs.out.below hb4 (Nat.le_refl _))
  have hb4 := below_trans hb2 hb4
  clear hb2
  go_wp2_with fail
  refine (HSv.out w4).mono ?_; rintro e w5 ⟨rfl, hb5⟩
  have HVs5 := Lib.hid (HVs4.out.below hb5 (Nat.le_refl _))
  have hb5 := below_trans hb4 hb5
  clear hb4
  go_wp2_with fail
  refine (HPr.out _ w5 HVs5.out).mono ?_; rintro e w6 ⟨rfl, hb6⟩
  have hb6 := below_trans hb5 hb6
  clear hb5
  go_wp2_with fail
  refine (HTx.out w6).mono ?_; rintro e w7 ⟨rfl, hb7⟩
  have hb7 := below_trans hb6 hb7
  clear hb6
  go_wp2_with fail
  go_ret2
  exact ⟨ret_of (by
    show Value.tuple #[.string (ByteArray.mk s7.toArray ++ ByteArray.mk tx.toArray ++ ByteArray.mk rb.toArray), .nilIface] = _
    rw [ByteArray.mk_append_mk, ByteArray.mk_append_mk]), hb7⟩

set_option maxRecDepth 100000 in
set_option maxHeartbeats 4000000 in
theorem dictOf_ok (kind : Int) (v : Value) (l : List Val) (w : World) (hI : IsVals w v l) (hl : l.length ≤ 1000) (hO : ∀ x ∈ l, x.Ok) (hn : valsErr kind l = .nil) :
    Calls Tryd.prog 36 #[.int .i64 kind, v] w fun e w' => e = .returned (.string ⟨(dictB kind l).toArray⟩) ∧ Below w.heap.size w w' := by
  obtain ⟨h1, h5, _, hP⟩ := valsErr_nil hn
  have HUn := Lib.hid (unlikeOf_any v l w hI (by omega) hO)
  obtain ⟨uO, uP⟩ := unlike_right hO hP
  have hul := (unlikeV_len l []).2
  have hpl := placesV_len l []
  have hplt := placesV_lt l []
  have hdb : dictB kind l = seven (unlikeV [] l).length ++ textOf (plainB kind (unlikeV [] l)) ++ runsB (placeW (unlikeV [] l).length) (placesV [] l) [] := rfl
  rw [List.length_nil, Nat.zero_add] at hul
  obtain ⟨ad, cap, rfl⟩ := hI.form
  generalize unlikeV [] l = u at *
  generalize placesV [] l = pp at *
  have hu1000 : u.length ≤ 1000 := by omega
  have HPr := Lib.hid (fun vs w1 h => plainOf_any kind vs u w1 h (by omega) h1 h5 uP)
  have hplen := plainB_len kind u fun h4 x hx => ((uP x hx).text h4).2
  have HWi := Lib.hid (fun w1 => placeWidth_any u.length (by omega) w1)
  have HRn := Lib.hid (fun ps w1 h => runsOf_any ps pp (placeW u.length) w1 h (placeW_le (by omega)) (by omega) fun x hx => placeW_fits (by omega) (hplt x hx))
  have hrl := runsB_len (placeW u.length) (placeW_le (by omega)) _ pp [] rfl (by simp; omega)
  rw [List.length_nil, hpl] at hrl
  have HSv := Lib.hid (fun w1 => show Calls Tryd.prog 55 #[.int .u64 ((u.length : Nat) : Int)] w1 fun e w' => e = .returned (.string ⟨(seven u.length).toArray⟩) ∧ Below w1.heap.size w1 w' from sevenOf_any _ w1 (by omega) (by omega))
  have hs7 := seven_len (show u.length < 18446744073709551616 by omega)
  have hps : (ByteArray.mk (plainB kind u).toArray).size = (plainB kind u).length := by show (plainB kind u).toArray.size = _; simp
  have HTx := Lib.hid (fun w1 => show Calls Tryd.prog 49 #[.string ⟨(plainB kind u).toArray⟩] w1 fun e w' => e = .returned (.string ⟨(textOf (plainB kind u)).toArray⟩) ∧ Below w1.heap.size w1 w' from by
    have h := long_any ⟨(plainB kind u).toArray⟩ w1 (by rw [hps]; omega)
    simpa using h)
  have htl : (textOf (plainB kind u)).length ≤ 200000 := by
    unfold textOf
    have := seven_len (show (plainB kind u).length < 18446744073709551616 by omega)
    rw [List.length_append]; omega
  rw [hdb]
  clear hI hO hn h1 h5 hP uO uP hul hpl hplt hdb hplen hps
  generalize placeW u.length = pw at *
  generalize seven u.length = s7 at *
  generalize textOf (plainB kind u) = tx at *
  generalize plainB kind u = pb at *
  generalize runsB pw pp [] = rb at *
  have hadd1 : ¬ 9223372036854775807 < s7.length + tx.length := by omega
  have hadd2 : ¬ 9223372036854775807 < s7.length + tx.length + rb.length := by omega
  have hw64 : IntKind.u64.wrap ((u.length : Nat) : Int) = ((u.length : Nat) : Int) := by rw [IntKind.wrap_u64]; omega
  go_enter Tryd.func36, Tryd.ntmps36
  go_wp2_with fail
  refine HUn.out.mono ?_; rintro e w2 ⟨⟨vs, ps, rfl, hvs, hps⟩, hb2⟩
  have hVs := IsVals.of_own hvs
  obtain ⟨adV, capV, hV⟩ := hVs.form
  subst hV
  have HVs := Lib.hid hVs; have HIs := Lib.hid (nums_nat hps)
  clear hVs hvs hps
  go_wp2_with fail
  refine (HSv.out w2).mono ?_; rintro e w5 ⟨rfl, hb5⟩
  have HVs5 := Lib.hid (HVs.out.below hb5 (Nat.le_refl _)); have HIs5 := Lib.hid (HIs.out.below hb5 (Nat.le_refl _))
  have hb5 := below_trans hb2 hb5
  clear hb2
  go_wp2_with fail
  refine (HPr.out _ w5 HVs5.out).mono ?_; rintro e w6 ⟨rfl, hb6⟩
  have HIs6 := Lib.hid (HIs5.out.below hb6 (Nat.le_refl _))
  have hb6 := below_trans hb5 hb6
  clear hb5
  go_wp2_with fail
  refine (HTx.out w6).mono ?_; rintro e w7 ⟨rfl, hb7⟩
  have HIs7 := Lib.hid (HIs6.out.below hb7 (Nat.le_refl _))
  have hb7 := below_trans hb6 hb7
  clear hb6
  go_wp2_with fail
  refine (HWi.out w7).mono ?_; rintro e w8 ⟨rfl, hw8⟩
  subst hw8
  go_wp2_with fail
  refine (HRn.out _ _ HIs7.out).mono ?_; rintro e w9 ⟨rfl, hb9⟩
  have hb9 := below_trans hb7 hb9
  clear hb7
  go_wp2_with fail
  go_ret
  exact ⟨ret_of (by
    show Value.string (ByteArray.mk s7.toArray ++ ByteArray.mk tx.toArray ++ ByteArray.mk rb.toArray) = _
    rw [ByteArray.mk_append_mk, ByteArray.mk_append_mk]), hb9⟩

theorem fault_info7 : ∃ j, Tryd.prog.info? 38 = some j ∧ j.zero = some (.agg #[.int .i64 0, .int .i64 0]) := by
  have h : (Tryd.prog.info? 38).map (·.zero) = some (some (.agg #[.int .i64 0, .int .i64 0])) := by kernel_rfl
  cases hh : Tryd.prog.info? 38 with
  | none => rw [hh] at h; cases h
  | some j => rw [hh] at h; exact ⟨j, rfl, by simpa using h⟩
theorem valsErr_pos7 {kind : Int} {l : List Val} (h : valsErr kind l ≠ .nil) : 0 < (valsErr kind l).code := by
  unfold valsErr at h ⊢
  split
  · decide
  · split
    · decide
    · rw [if_neg (by assumption), if_neg (by assumption)] at h
      cases hb : badAt kind l 0 with
      | none => rw [hb] at h; exact absurd rfl h
      | some i => exact (by decide : (0 : Int) < 4)

set_option maxRecDepth 100000 in
set_option maxHeartbeats 2000000 in
theorem encDict_law {w : World} (kind : Int) (k0 : -9223372036854775808 ≤ kind) (k1 : kind < 9223372036854775808) (v : Value) (a : List Val) (I : IsVals w v a) (fa : FitsV a)
    (hL : laidMetH Tryd.prog fullLaid w) :
    Calls Tryd.prog 10 #[.int .i64 kind, v] w fun e w' => e = .returned (.bool true) ∧ Below w.heap.size w w' := by
  obtain ⟨adr, hE⟩ := env_of_laid hL
  obtain ⟨jf, hjf, hzf⟩ := fault_info7
  have HI := Lib.hid I; have HE := Lib.hid hE
  have HSa := Lib.hid (fun w1 h => small_any v a w1 h fa.1 fa.2)
  have HVa := Lib.hid (fun (h : a.length ≤ 300) w1 h1 => values_any v a w1 h1 (by omega))
  have HVE := Lib.hid (fun w1 h => show Calls Tryd.prog 23 #[.int .i64 kind, v] w1 fun e w' => e = .returned (.agg #[.int .i64 (valsErr kind a).code, .int .i64 (valsErr kind a).at']) ∧ Below w1.heap.size w1 w' from valuesError_any kind v a w1 h fa.1 fa.2)
  have HCP : Hid ((valsErr kind a = .nil → (valsErr kind a).code = 0) ∧ (valsErr kind a ≠ .nil → 0 < (valsErr kind a).code)) := ⟨fun h => by rw [h]; rfl, valsErr_pos7⟩
  have HPe := Lib.hid (fun (hn : valsErr kind a ≠ .nil) x w1 h1 h2 => dict_err kind x a w1 adr h1 h2 fa.2 hn)
  have HPo := Lib.hid (fun (hn : valsErr kind a = .nil) (h3 : a.length ≤ 300) x w1 h2 => dict_ok kind x a w1 h2 (by omega) fa.2 hn)
  have HPO := Lib.hid (fun (hn : valsErr kind a = .nil) (h3 : a.length ≤ 300) w1 h => dictOf_ok kind v a w1 h (by omega) fa.2 hn)
  have HFd := Lib.hid (fun (w1 : World) (x : Value) h1 h2 => show Calls Tryd.prog 24 #[x, .agg #[.int .i64 (valsErr kind a).code, .int .i64 (valsErr kind a).at']] w1 fun r w' => r = .returned (.bool true) ∧ Below w1.heap.size w1 w' from (faulted_any (w := w1) (adr := adr) (e := valsErr kind a) (v := x) _ _ h1 h2).mono fun r w' ⟨h1, h2⟩ => ⟨h1.trans (ret_of (by simp)), h2⟩)
  have la := fa.1
  unfold maxLen at la
  generalize (valsErr kind a).code = c at HVE HCP HFd
  generalize (valsErr kind a).at' = p at HVE HFd
  obtain ⟨ad, cap, rfl⟩ := I.form
  clear hL hE fa
  clear I
  go_enter Tryd.func10, Tryd.ntmps10
  go_wp2_with fail
  refine (four_any _).mono ?_; rintro e w1 ⟨rfl, hb1⟩
  go_wp2_with fail
  refine (HSa.out w1 (HI.out.below hb1 (Nat.le_refl _))).mono ?_; rintro e w1 ⟨⟨sa, rfl, hsa⟩, rfl⟩
  cases sa with
  | false =>
    go_wp2_with fail
    go_ret
    exact ⟨rfl, hb1⟩
  | true =>
  have ha := hsa rfl
  clear hsa
  go_wp2_with fail
  refine (HVE.out w1 (HI.out.below hb1 (Nat.le_refl _))).mono ?_; rintro e w2 ⟨rfl, hb2⟩
  have hb2 := below_trans hb1 hb2
  clear hb1
  by_cases hn : valsErr kind a = .nil
  · obtain rfl := HCP.out.1 hn
    have HN := Lib.hid hn
    clear hn
    go_wp2_with (first
      | (refine wpList_alloc_row rfl 38 rfl jf _ _ hjf hzf rfl ?_)
      | (refine wpList_store_new rfl rfl 38 _ _ rfl rfl _ #[.int .i64 0, .int .i64 p] rfl (by kernel_rfl) rfl (by simp [Value.oneCell']) ?_))
    have hb3 : Below w.heap.size w (w2.alloc (.cells #[.int .i64 0, .int .i64 p] 38)) := hb2.alloc hb2.size _
    have hcl := heap_alloc_new w2 (.cells #[.int .i64 0, .int .i64 p] 38)
    generalize hpb : w2.heap.size = pb at *
    generalize w2.alloc (.cells #[.int .i64 0, .int .i64 p] 38) = w3 at *
    have Hcl := Lib.hid hcl
    clear hb2 hpb hcl
    refine (HVa.out ha _ (HI.out.below hb3 (Nat.le_refl _))).mono ?_; rintro e w4 ⟨⟨x, rfl, hx⟩, hb4⟩
    have hcl4 := (hb4.block pb (Array.getElem?_eq_some_iff.1 Hcl.out).1).trans Hcl.out
    have hb4 := below_trans hb3 hb4
    have Hx := Lib.hid hx
    have Hcl4 := Lib.hid hcl4
    clear hb3 hx Hcl hcl4
    go_wp2_with fail
    refine (HPo.out HN.out ha x w4 Hx.out).mono ?_; rintro e w5 ⟨rfl, hb5⟩
    have hcl5 := (hb5.block pb (Array.getElem?_eq_some_iff.1 Hcl4.out).1).trans Hcl4.out
    have hb5 := below_trans hb4 hb5
    have q0 : w5.cell? ⟨pb, 0, none⟩ = some (.int .i64 0) := by rw [Lib.cell_of_heap hcl5]; rfl
    clear hb4 hcl5
    generalize dictB kind a = pl at *
    go_wp2_with fail
    refine (HPO.out HN.out ha w5 (HI.out.below hb5 (Nat.le_refl _))).mono ?_; rintro e w6 ⟨rfl, hb6⟩
    go_wp2_with fail
    go_ret
    exact ⟨ret_of (by simp), below_trans hb5 hb6⟩
  · have hc := HCP.out.2 hn
    have HN := Lib.hid hn
    clear hn
    go_wp2_with (first
      | (refine wpList_alloc_row rfl 38 rfl jf _ _ hjf hzf rfl ?_)
      | (refine wpList_store_new rfl rfl 38 _ _ rfl rfl _ #[.int .i64 c, .int .i64 p] rfl (by kernel_rfl) rfl (by simp [Value.oneCell']) ?_))
    have hb3 : Below w.heap.size w (w2.alloc (.cells #[.int .i64 c, .int .i64 p] 38)) := hb2.alloc hb2.size _
    have hcl := heap_alloc_new w2 (.cells #[.int .i64 c, .int .i64 p] 38)
    generalize hpb : w2.heap.size = pb at *
    generalize w2.alloc (.cells #[.int .i64 c, .int .i64 p] 38) = w3 at *
    have Hcl := Lib.hid hcl
    clear hb2 hpb hcl
    refine (HVa.out ha _ (HI.out.below hb3 (Nat.le_refl _))).mono ?_; rintro e w4 ⟨⟨x, rfl, hx⟩, hb4⟩
    have hcl4 := (hb4.block pb (Array.getElem?_eq_some_iff.1 Hcl.out).1).trans Hcl.out
    have hb4 := below_trans hb3 hb4
    have Hx := Lib.hid hx
    have Hcl4 := Lib.hid hcl4
    clear hb3 hx Hcl hcl4
    go_wp2_with fail
    refine (HPe.out HN.out x w4 ((HE.out.below hb4).errs.sub rfl) Hx.out).mono ?_; rintro e w5 ⟨⟨y, rfl, hy⟩, hb5⟩
    have hcl5 := (hb5.block pb (Array.getElem?_eq_some_iff.1 Hcl4.out).1).trans Hcl4.out
    have hb5 := below_trans hb4 hb5
    have q0 : w5.cell? ⟨pb, 0, none⟩ = some (.int .i64 c) := by rw [Lib.cell_of_heap hcl5]; rfl
    have Hcl5 := Lib.hid hcl5; have Hy := Lib.hid hy
    clear hb4 hcl5 hy
    go_wp2_with (refine wpList_load_row rfl 38 _ rfl pb rfl 38 #[.int .i64 c, .int .i64 p] (0, 0) _ Hcl5.out Tryd.underlying38 rfl (by kernel_rfl) ?_)
    refine (HFd.out w5 y (HE.out.below hb5) Hy.out).mono ?_; rintro e w6 ⟨rfl, hb6⟩
    go_wp2_with fail
    go_ret
    exact ⟨ret_of (by simp), below_trans hb5 hb6⟩
end Go.Proofs.YtddefnnimbjnaaaDoor
