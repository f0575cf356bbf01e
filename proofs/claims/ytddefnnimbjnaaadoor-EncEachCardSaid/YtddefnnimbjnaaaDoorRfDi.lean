/- The walk of the document's ReadDictOf. -/
import Derived.Test.YtddefnnimbjnaaaDoorRfB
import Derived.Test.YtddefnnimbjnaaaDoorRdDi
import Derived.Test.YtddefnnimbjnaaaDoorMReadsO
namespace Go.Proofs.YtddefnnimbjnaaaDoor
set_option linter.unusedVariables false
open Go Go.RowKit Go.ChangeShapes

set_option maxRecDepth 100000 in
set_option maxHeartbeats 8000000 in
theorem readDictOf_any (kind : Int) (s : ByteArray) (n : Nat) (w : World) (h1 : 1 ≤ kind) (h5 : kind ≤ 5) (hn : n ≤ 20000) (hs : s.size ≤ 100000) :
    Calls Tryd.prog 82 #[.int .i64 kind, .string s, .int .i64 (n : Nat)] w fun e w' => RfRet w.heap.size (readDi kind s.data.toList n) e w' ∧ Below w.heap.size w w' := by
  obtain ⟨iv, hiv, hzv, hsv⟩ := val_info
  have hszv : (Tryd.prog.info? 33).map (·.size) = some (valA ⟨0, 0, ⟨#[]⟩⟩).size := by rw [hiv]; simp [hsv, valA]
  have hsm : s.size ≤ maxLen := by unfold maxLen; omega
  have hsl : s.data.toList.length = s.size := by simp
  have Hsl := Lib.hid hsl
  clear hsl
  cases hU : readU s.data.toList with
  | none => as_aux_lemma =>
    have HC := Lib.hid (fun w1 => readSeven_none s w1 hsm hU)
    have HN := Lib.hid (show readDi kind s.data.toList n = none from readDi_1 hU)
    clear hU
    go_enter Tryd.func82, Tryd.ntmps82
    go_wp2_with fail
    refine (HC.out w).mono ?_; rintro e w1 ⟨rfl, hw1⟩
    subst hw1
    go_wp2_with fail
    go_ret2
    exact ⟨RfRet.bad HN.out rfl, Below.refl _ _⟩
  | some y =>
    obtain ⟨many, u⟩ := y
    have HC := Lib.hid (fun w1 => readSeven_some s w1 hsm hU)
    obtain ⟨hl1, hl2, hl3, hl4⟩ := readU_lt hU
    rw [Hsl.out] at hl3
    have hu0 : ((u : Int) == 0) = false := by rw [beq_eq_false_iff_ne]; omega
    have HU := Lib.hid hU
    clear hU
    by_cases hmn : n < many
    · as_aux_lemma =>
      have HN := Lib.hid (show readDi kind s.data.toList n = none from readDi_2 HU.out hmn)
      have hmI : (n : Int) < (many : Int) := by omega
      go_enter Tryd.func82, Tryd.ntmps82
      go_wp2_with fail
      refine (HC.out w).mono ?_; rintro e w1 ⟨rfl, hw1⟩
      subst hw1
      go_wp2_with fail
      go_ret2
      exact ⟨RfRet.bad HN.out rfl, Below.refl _ _⟩
    · have hml : many ≤ n := by omega
      have Hmn := Lib.hid hmn
      clear hmn
      have hes : (s.extract u s.size).size ≤ maxLen := by simp; unfold maxLen; omega
      have he := bext_list s u
      cases hT : readT (s.data.toList.drop u) with
      | none => as_aux_lemma =>
        have HC2 := Lib.hid (fun w1 => readLong_none (s.extract u s.size) w1 hes (by rw [he]; exact hT))
        have HN := Lib.hid (show readDi kind s.data.toList n = none from readDi_3 HU.out Hmn.out hT)
        clear hT he
        go_enter Tryd.func82, Tryd.ntmps82
        go_wp2_with fail
        refine (HC.out w).mono ?_; rintro e w1 ⟨rfl, hw1⟩
        subst hw1
        go_wp2_with fail
        refine (HC2.out w1).mono ?_; rintro e w2 ⟨rfl, hw2⟩
        subst hw2
        go_wp2_with fail
        go_ret2
        exact ⟨RfRet.bad HN.out rfl, Below.refl _ _⟩
      | some y =>
        obtain ⟨t, m⟩ := y
        have HC2 := Lib.hid (fun w1 => readLong_some (s.extract u s.size) w1 hes (by rw [he]; exact hT))
        obtain ⟨_, htk, ht2, hkr⟩ := readT_inv hT
        rw [List.length_drop, Hsl.out] at hkr
        have hum : u + m ≤ s.size := by omega
        have hm0 : 0 < m := by
          obtain ⟨n', u', hr', _, _, _, hk'⟩ := readT_cases hT
          have := readU_lt hr'
          omega
        have hmI : ((m : Int) == 0) = false := by rw [beq_eq_false_iff_ne]; omega
        have htm : t.length ≤ m := by
          have : (textOf t).length = (seven t.length).length + t.length := List.length_append
          omega
        have hts : (ByteArray.mk t.toArray).size ≤ 1000000 := by show t.toArray.size ≤ _; simp; omega
        have HC3 := Lib.hid (fun w1 => readPlainOf_any kind ⟨t.toArray⟩ many w1 h1 h5 (by omega) hts)
        have HT := Lib.hid hT
        clear hT he htk
        cases hP : readP kind t many with
        | none => as_aux_lemma =>
          have HN := Lib.hid (show readDi kind s.data.toList n = none from readDi_4 HU.out Hmn.out HT.out hP)
          rw [hP] at HC3
          clear hP
          go_enter Tryd.func82, Tryd.ntmps82
          go_wp2_with fail
          refine (HC.out w).mono ?_; rintro e w1 ⟨rfl, hw1⟩
          subst hw1
          go_wp2_with fail
          refine (HC2.out w1).mono ?_; rintro e w2 ⟨rfl, hw2⟩
          subst hw2
          go_wp2_with fail
          refine (HC3.out w2).mono ?_; rintro e w3 ⟨⟨uv, rfl⟩, hb⟩
          go_wp2_with fail
          go_ret2
          exact ⟨RfRet.bad HN.out rfl, hb⟩
        | some us =>
          obtain ⟨pi1, pi2, pi3, pi4⟩ := readP_inv h1 h5 hP
          have HOu := Lib.hid pi3
          have husl : us.length ≤ 20000 := by omega
          have HP := Lib.hid hP
          rw [hP] at HC3
          have hws := placeW_le2 (n := many) (by omega)
          have HWm := Lib.hid (fun w1 => placeWidth_any many (by omega) w1)
          have hrs : (s.extract (u + m) s.size).size ≤ 100000 := by simp; omega
          have hre := bext_list s (u + m)
          have HC5 := Lib.hid (fun w1 => readRunsOf_any (s.extract (u + m) s.size) (placeW many) n w1 hws hn hrs)
          rw [hre] at HC5
          clear hre pi1 pi2 pi3 pi4 hP hrs
          generalize hpw : placeW many = pw at *
          have Hpw := Lib.hid hpw
          clear hpw
          cases hR : readR pw n (s.data.toList.drop (u + m)) with
          | none => as_aux_lemma =>
            have HN := Lib.hid (show readDi kind s.data.toList n = none from readDi_5 HU.out Hmn.out HT.out HP.out (by rw [Hpw.out]; exact hR))
            rw [hR] at HC5
            clear hR
            have hkI : ((-1 : Int) != ((s.size - (u + m) : Nat) : Int)) = true := by rw [bne_iff_ne]; omega
            go_enter Tryd.func82, Tryd.ntmps82
            go_wp2_with fail
            refine (HC.out w).mono ?_; rintro e w1 ⟨rfl, hw1⟩
            subst hw1
            go_wp2_with fail
            refine (HC2.out w1).mono ?_; rintro e w2 ⟨rfl, hw2⟩
            subst hw2
            go_wp2_with fail
            refine (HC3.out w2).mono ?_; rintro e w3 ⟨⟨uv, rfl, huv⟩, hb3⟩
            obtain ⟨adv, capv, rfl⟩ := bslice_form huv
            clear huv
            go_wp2_with fail
            refine (HWm.out w3).mono ?_; rintro e w4 ⟨rfl, hw4⟩
            subst hw4
            go_wp2_with fail
            refine (HC5.out w4).mono ?_; rintro e w5 ⟨rfl, hb5⟩
            go_wp2_with fail
            go_ret2
            exact ⟨RfRet.bad HN.out rfl, below_trans hb3 hb5⟩
          | some y =>
            obtain ⟨ps, k⟩ := y
            have hplen := readR_len2 pw n n _ ps k rfl hR
            have hpl2 : ps.length ≤ 20000 := by omega
            clear hplen
            have h6 := readDi_6 HU.out Hmn.out HT.out HP.out (by rw [Hpw.out]; exact hR)
            rw [hR] at HC5
            have H6 := Lib.hid h6
            have hdl : (s.data.toList.drop (u + m)).length = s.size - (u + m) := by rw [List.length_drop, Hsl.out]
            rw [hdl] at H6
            clear hR h6 hdl
            go_enter Tryd.func82, Tryd.ntmps82
            go_wp2_with fail
            refine (HC.out w).mono ?_; rintro e w1 ⟨rfl, hw1⟩
            subst hw1
            go_wp2_with fail
            refine (HC2.out w1).mono ?_; rintro e w2 ⟨rfl, hw2⟩
            subst hw2
            go_wp2_with fail
            refine (HC3.out w2).mono ?_; rintro e w3 ⟨⟨uv, rfl, huv⟩, hb3⟩
            have HVs := Lib.hid (IsVals.of_own huv)
            obtain ⟨adv, capv, rfl⟩ := bslice_form huv
            have Hb3 := Lib.hid hb3
            clear huv hb3
            go_wp2_with fail
            refine (HWm.out w3).mono ?_; rintro e w4 ⟨rfl, hw4⟩
            subst hw4
            go_wp2_with fail
            refine (HC5.out w4).mono ?_; rintro e w6 ⟨⟨pv, rfl, hps⟩, hb⟩
            have Hb6 := Lib.hid (below_trans Hb3.out hb)
            have HVs6 := Lib.hid (HVs.out.below hb (Nat.le_refl _))
            have HPs := Lib.hid (nums_nat hps)
            obtain ⟨adp, capp, rfl⟩ := bslice_form hps
            clear hb hps
            by_cases hk : k = s.size - (u + m)
            rotate_left
            focus
              have HN := Lib.hid (show readDi kind s.data.toList n = none by rw [H6.out, if_neg (fun hh => hk hh.1)])
              have hkI : ((k : Int) != ((s.size - (u + m) : Nat) : Int)) = true := by rw [bne_iff_ne]; omega
              go_wp2_with fail
              go_ret2
              exact ⟨RfRet.bad HN.out rfl, Hb6.out⟩
            subst hk
            go_wp2_with fail
            obtain ⟨f, hf⟩ : ∃ f : Nat → Val, f = fun p => us.getD p zeroV := ⟨_, rfl⟩
            rw [← hf] at H6
            have HfO := Lib.hid (show ∀ p, p < us.length → (f p).Ok from fun p hp => by rw [hf]; exact getD_ok HOu.out hp)
            have HfA := Lib.hid (show ∀ p, p < us.length → us[p]? = some (f p) from fun p hp => by rw [hf]; exact getD_at hp)
            clear hf
            have hws6 := Hb6.out.size
            go_loopw [17, 18] (fun lv iv wr => ∃ j : Nat, j ≤ ps.length ∧ iv = .int .i64 (j : Nat) ∧ wr.ownsRow w6.heap.size 33 3 lv ((ps.take j).map f).length (((ps.take j).map f).flatMap valCells) ∧ (∀ p ∈ ps.take j, p < us.length) ∧ Below w6.heap.size w6 wr) (fun _ iv _ => ps.length - (intOf iv).toNat)
            case atStart => exact ⟨0, Nat.zero_le _, rfl, World.ownsRow_nil _ _ _ _, by simp, Below.refl _ _⟩
            case round =>
              obtain ⟨j, hj, rfl, hown, hall, hb⟩ := hrel
              have Hown := Lib.hid hown; have Hall := Lib.hid hall; have Hb := Lib.hid hb
              have Hbw := Lib.hid (Hb6.out.trans (hb.mono hws6))
              have hbs := hb.size
              clear hown hall hb
              by_cases hlt : j < ps.length
              · have hltI : (j : Int) < (ps.length : Int) := by omega
                obtain ⟨b1, o1, rfl, hq1, hlt1, hc1⟩ := (HPs.out.below Hb.out (Nat.le_refl _)).at (by rw [show (ints ps).length = ps.length from List.length_map _]; omega)
                have hcp := hc1 j ((ps[j] : Nat) : Int) (by rw [show ints ps = ps.map (fun (q : Nat) => (q : Int)) from rfl, List.getElem?_map, List.getElem?_eq_getElem hlt]; rfl)
                have hpm : ps[j] ∈ ps := List.getElem_mem hlt
                have htk : ps.take (j + 1) = ps.take j ++ [ps[j]] := List.take_succ_eq_append_getElem hlt
                generalize ps[j] = p at *
                have Htk := Lib.hid htk
                clear hc1 htk hq1
                by_cases hp : p < us.length
                · obtain ⟨b2, o2, rfl, hq2, hlt2, hc2⟩ := (HVs6.out.below Hb.out (Nat.le_refl _)).at (by omega)
                  have hcx := hc2 p (f p) (HfA.out p hp)
                  have Hcx := Lib.hid hcx.cells
                  have hpI : ¬ (us.length : Int) ≤ (p : Int) := by omega
                  have hpI2 : (p : Int) < (us.length : Int) := by omega
                  have hl2 : ((ps.take j).map f).length ≤ 20000 := by rw [List.length_map, List.length_take]; omega
                  have hvs : (valA (f p)).size = 3 := rfl
                  clear hc2 hcx hq2
                  go_wp2_with (first
                    | (refine wpList_load_cells rfl 33 _ rfl b2 (o2 + p * 3) rfl (valA (f p)) _ Hcx.out Tryd.underlying33 rfl hszv ?_)
                    | (at_builtin; refine wpList_pushVal rfl _ _ rfl w6.heap.size _ ((ps.take j).map f) rfl Hown.out _ _ rfl rfl hl2 hbs (f p) _ rfl ?_; intro v' w8 hown' hgrow' hb'; have HO8 := Lib.hid hown'; have HB8 := Lib.hid (Hb.out.trans hb'); clear hown' hgrow' hb'))
                  go_roundw
                  case rel =>
                    have hO9 := HO8.out
                    rw [show (ps.take j).map f ++ [f p] = (ps.take (j + 1)).map f by rw [Htk.out]; simp] at hO9
                    refine ⟨j + 1, by omega, by go_num, hO9, ?_, HB8.out⟩
                    intro q hq
                    rw [Htk.out] at hq
                    rcases List.mem_append.1 hq with hq | hq
                    · exact Hall.out q hq
                    · obtain rfl := List.mem_singleton.1 hq; exact hp
                  case measure => simp [intOf]; omega
                · have HN := Lib.hid (show readDi kind s.data.toList n = none by rw [H6.out, if_neg (fun hh => hp (hh.2.1 p hpm))])
                  have hpI : (us.length : Int) ≤ (p : Int) := by omega
                  go_wp2_with fail
                  go_ret2
                  exact ⟨RfRet.bad HN.out rfl, Hbw.out⟩
              · obtain rfl : j = ps.length := by omega
                rw [List.take_length] at Hown Hall
                have hlO : ∀ z ∈ ps.map f, z.Ok := fun z hz => by
                  obtain ⟨q, hq, rfl⟩ := List.mem_map.1 hz
                  exact HfO.out q (Hall.out q hq)
                have HUn := Lib.hid (fun v => fun (h : IsVals wr v (ps.map f)) => unlikeOf_any v (ps.map f) wr h (by rw [List.length_map]; omega) hlO)
                have HIl := Lib.hid (IsVals.of_own Hown.out)
                rw [List.length_map] at Hown
                obtain ⟨adl, capl, rfl⟩ := bslice_form Hown.out
                clear hlO
                go_wp2_with fail
                refine (HUn.out _ HIl.out).mono ?_; rintro e w7 ⟨⟨vs2, ps2, rfl, hv2, _⟩, hb7⟩
                have Ho7 := Lib.hid (bown_below Hown.out hb7)
                have Hb7 := Lib.hid (Hbw.out.trans (hb7.mono Hbw.out.size))
                have HVs7 := Lib.hid ((HVs6.out.below Hb.out (Nat.le_refl _)).below hb7 (Nat.le_refl _))
                have HI7 := Lib.hid (IsVals.of_own hv2)
                have hfl7 := (unlikeV_len (ps.map f) []).2
                rw [List.length_nil, Nat.zero_add, List.length_map] at hfl7
                have H7 := Lib.hid (show readDi kind s.data.toList n = if sameB (unlikeV [] (ps.map f)) us = true then some (ps.map f) else none by
                  rw [H6.out]
                  by_cases h : sameB (unlikeV [] (ps.map f)) us = true
                  · rw [if_pos ⟨by first | rfl | trivial, Hall.out, h⟩, if_pos h]
                  · rw [if_neg (fun hh => h hh.2.2), if_neg h])
                clear hb7 hv2
                generalize unlikeV [] (ps.map f) = fs at *
                have HSv := Lib.hid (sameValues_any vs2 (.slice adv us.length capv) fs us w7 HI7.out HVs7.out (by unfold maxLen; omega) (by unfold maxLen; omega))
                go_wp2_with fail
                refine HSv.out.mono ?_; rintro e w9 ⟨rfl, hb9⟩
                have Hb9 := Lib.hid (Hb7.out.trans (hb9.mono Hb7.out.size))
                have Ho9 := Lib.hid (bown_below Ho7.out hb9)
                clear hb9
                go_wp2_with fail
                go_ret2
                refine ⟨?_, Hb9.out⟩
                cases hsb : sameB fs us with
                | false =>
                  rw [hsb] at H7
                  exact RfRet.bad H7.out rfl
                | true =>
                  rw [hsb] at H7
                  exact RfRet.good (l := ps.map f) (by rw [H7.out]; rfl) rfl (by rw [List.length_map]; exact bown_base2 Ho9.out hws6)
end Go.Proofs.YtddefnnimbjnaaaDoor
