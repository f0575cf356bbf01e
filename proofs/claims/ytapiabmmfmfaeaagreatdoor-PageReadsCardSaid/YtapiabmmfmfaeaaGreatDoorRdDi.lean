/- The walk of enc.ReadDict. -/
import Derived.Test.YtapiabmmfmfaeaaGreatDoorMRd
import Derived.Test.YtapiabmmfmfaeaaGreatDoorMDict
namespace Go.Proofs.YtapiabmmfmfaeaaGreatDoor
set_option maxHeartbeats 8000000
set_option linter.unusedVariables false
open Go Go.RowKit Go.ChangeShapes
theorem placeW_le2 {n:Nat} (h:n ≤ 20000):placeW n ≤ 32:=by
 unfold placeW
 exact Nat.le_trans (Lib.bitLen_le (n - 1) 15 (by decide) (by omega)) (by decide)
theorem width_many (many:Nat) (h:many ≤ 20000) (w:World):Calls Tryz.prog 45 #[.int .i64 ((many:Int) - 1)] w fun e w'=>e = .returned (.int .i64 ((placeW many:Nat):Int)) ∧ w' = w:=by
 have h:=width_any ((many:Int) - 1) (by omega) (by omega) w
 rwa [show ((many:Int) - 1).toNat = many - 1 by omega] at h
theorem getD_ok {us:List Val} (h:∀ x ∈ us,x.Ok) {p:Nat} (hp:p < us.length):(us.getD p zeroV).Ok:=by
 rw [List.getD_eq_getElem?_getD,List.getElem?_eq_getElem hp]
 exact h _ (List.getElem_mem hp)
theorem bown_base {w:World} {B B' n s:Nat} {e:TypeId} {v:Value} {xs:List Value} (h:w.ownsRow B e s v n xs) (hB:B' ≤ B):w.ownsRow B' e s v n xs:=by
 refine ⟨h.1,?_⟩
 rcases h.2 with h0 | ⟨g,cap,cur,hv,h1,h2,h3⟩
 ·exact .inl h0
 ·exact .inr ⟨g,cap,cur,hv,Nat.le_trans hB h1,h2,h3⟩
theorem getD_at {us:List Val} {p:Nat} (hp:p < us.length):us[p]? = some (us.getD p zeroV):=by
 rw [List.getD_eq_getElem?_getD,List.getElem?_eq_getElem hp];rfl
set_option maxRecDepth 100000 in
theorem readDict_any (kind:Int) (s:ByteArray) (n:Nat) (T:TypeId) (x:Value) (w:World) (h1:1 ≤ kind) (h5:kind ≤ 5) (hn:n ≤ 20000) (hs:s.size ≤ 200000) (hev:w.cell? ⟨1,0,none⟩ = some (.iface T x)) :
    Calls Tryz.prog 48 #[.int .i64 kind,.string s,.int .i64 (n:Nat)] w fun e w'=>RdRet (.iface T x) w.heap.size (readDi kind s.data.toList n) e w' ∧ Below w.heap.size w w':=by
  obtain ⟨iv,hiv,hzv,hsv⟩:=val_info
  have hszv:(Tryz.prog.info? 41).map (·.size) = some (valA ⟨0,0,⟨#[]⟩⟩).size:=by rw [hiv];simp [hsv,valA]
  have hsz:(1:Nat) < w.heap.size:=block_lt_of_cell hev
  have hsm:s.size ≤ maxLen:=by unfold maxLen;omega
  have hsl:s.data.toList.length = s.size:=by simp
  have Hsz:=Lib.hid hsz;have Hev1:=Lib.hid hev;have Hsl:=Lib.hid hsl
  have HK:=Lib.hid (known_ok kind n w h1 h5 (by omega) (by omega))
  clear hsz hev hsl
  cases hU:readU s.data.toList with
  | none=>as_aux_lemma =>
    have HC:=Lib.hid (fun w1 hh=>readUvarint_none s (.iface T x) w1 hsm hh hU)
    have HN:=Lib.hid (show readDi kind s.data.toList n = none from readDi_1 hU)
    clear hU
    go_enter Tryz.func48,Tryz.ntmps48
    go_wp2_with fail
    refine HK.out.mono ?_;rintro e w1 ⟨rfl,hw1⟩
    subst hw1
    have Hb1:=Lib.hid (Below.refl w1.heap.size w1)
    go_wp2_with fail
    refine (HC.out w1 Hev1.out).mono ?_;rintro e w2 ⟨rfl,hb⟩
    have Hev2:=Lib.hid ((hb.cell (p:=⟨1,0,none⟩) (block_lt_of_cell Hev1.out)).trans Hev1.out)
    have Hb2:=Lib.hid (Hb1.out.trans (hb.mono Hb1.out.size))
    clear hb
    go_wp2_with fail
    have hev:=Hev2.out
    go_quiet (fail)
    go_wp2_with fail
    go_ret2
    exact ⟨RdRet.bad (HN.out),below_drewN Hb2.out _⟩
  | some y =>
    obtain ⟨many,u⟩:=y
    have HC:=Lib.hid (fun w1 hh=>readUvarint_some s (.iface T x) w1 hsm hh hU)
    obtain ⟨hl1,hl2,hl3,hl4⟩:=readU_lt hU
    rw [Hsl.out] at hl3
    have HU:=Lib.hid hU
    clear hU
    by_cases hmn:n < many
    · as_aux_lemma =>
      have HN:=Lib.hid (show readDi kind s.data.toList n = none from readDi_2 HU.out hmn)
      have hmI:(n:Int) < (many:Int):=by omega
      go_enter Tryz.func48,Tryz.ntmps48
      go_wp2_with fail
      refine HK.out.mono ?_;rintro e w1 ⟨rfl,hw1⟩
      subst hw1
      have Hb1:=Lib.hid (Below.refl w1.heap.size w1)
      go_wp2_with fail
      refine (HC.out w1 Hev1.out).mono ?_;rintro e w2 ⟨rfl,hb⟩
      have Hev2:=Lib.hid ((hb.cell (p:=⟨1,0,none⟩) (block_lt_of_cell Hev1.out)).trans Hev1.out)
      have Hb2:=Lib.hid (Hb1.out.trans (hb.mono Hb1.out.size))
      clear hb
      go_wp2_with fail
      have hev:=Hev2.out
      go_quiet (fail)
      go_wp2_with fail
      go_ret2
      exact ⟨RdRet.bad (HN.out),below_drewN Hb2.out _⟩
    · have hml:many ≤ n:=by omega
      have Hmn:=Lib.hid hmn
      clear hmn
      have hes:(s.extract u s.size).size ≤ maxLen:=by simp;unfold maxLen;omega
      have he:=bext_list s u
      cases hT:readT (s.data.toList.drop u) with
      | none=>as_aux_lemma =>
        have HC2:=Lib.hid (fun w1 hh=>readText_none (s.extract u s.size) T x w1 hes hh (by rw [he];exact hT))
        have HN:=Lib.hid (show readDi kind s.data.toList n = none from readDi_3 HU.out Hmn.out hT)
        clear hT he
        go_enter Tryz.func48,Tryz.ntmps48
        go_wp2_with fail
        refine HK.out.mono ?_;rintro e w1 ⟨rfl,hw1⟩
        subst hw1
        have Hb1:=Lib.hid (Below.refl w1.heap.size w1)
        go_wp2_with fail
        refine (HC.out w1 Hev1.out).mono ?_;rintro e w2 ⟨rfl,hb⟩
        have Hev2:=Lib.hid ((hb.cell (p:=⟨1,0,none⟩) (block_lt_of_cell Hev1.out)).trans Hev1.out)
        have Hb2:=Lib.hid (Hb1.out.trans (hb.mono Hb1.out.size))
        clear hb
        go_wp2_with fail
        refine (HC2.out w2 Hev2.out).mono ?_;rintro e w3 ⟨rfl,hb⟩
        have Hev3:=Lib.hid ((hb.cell (p:=⟨1,0,none⟩) (block_lt_of_cell Hev2.out)).trans Hev2.out)
        have Hb3:=Lib.hid (Hb2.out.trans (hb.mono Hb2.out.size))
        clear hb
        go_wp2_with fail
        have hev:=Hev3.out
        go_quiet (fail)
        go_wp2_with fail
        go_ret2
        exact ⟨RdRet.bad (HN.out),below_drewN Hb3.out _⟩
      | some y =>
        obtain ⟨t,m⟩:=y
        have HC2:=Lib.hid (fun w1 hh=>readText_some (s.extract u s.size) T x w1 hes hh (by rw [he];exact hT))
        obtain ⟨_,htk,ht2,hkr⟩:=readT_inv hT
        rw [List.length_drop,Hsl.out] at hkr
        have hum:u + m ≤ s.size:=by omega
        have htm:t.length ≤ m:=by
          have:(textOf t).length = (seven t.length).length + t.length:=List.length_append
          omega
        have hts:(ByteArray.mk t.toArray).size ≤ 1000000:=by show t.toArray.size ≤ _;simp;omega
        have HC3:=Lib.hid (fun w1 hh=>readPlain_any kind ⟨t.toArray⟩ many T x w1 h1 h5 (by omega) hts hh)
        have HT:=Lib.hid hT
        clear hT he htk
        cases hP:readP kind t many with
        | none=>as_aux_lemma =>
          have HN:=Lib.hid (show readDi kind s.data.toList n = none from readDi_4 HU.out Hmn.out HT.out hP)
          rw [hP] at HC3
          clear hP
          go_enter Tryz.func48,Tryz.ntmps48
          go_wp2_with fail
          refine HK.out.mono ?_;rintro e w1 ⟨rfl,hw1⟩
          subst hw1
          have Hb1:=Lib.hid (Below.refl w1.heap.size w1)
          go_wp2_with fail
          refine (HC.out w1 Hev1.out).mono ?_;rintro e w2 ⟨rfl,hb⟩
          have Hev2:=Lib.hid ((hb.cell (p:=⟨1,0,none⟩) (block_lt_of_cell Hev1.out)).trans Hev1.out)
          have Hb2:=Lib.hid (Hb1.out.trans (hb.mono Hb1.out.size))
          clear hb
          go_wp2_with fail
          refine (HC2.out w2 Hev2.out).mono ?_;rintro e w3 ⟨rfl,hb⟩
          have Hev3:=Lib.hid ((hb.cell (p:=⟨1,0,none⟩) (block_lt_of_cell Hev2.out)).trans Hev2.out)
          have Hb3:=Lib.hid (Hb2.out.trans (hb.mono Hb2.out.size))
          clear hb
          go_wp2_with fail
          refine (HC3.out w3 Hev3.out).mono ?_;rintro e w4 ⟨rfl,hb⟩
          have Hev4:=Lib.hid ((hb.cell (p:=⟨1,0,none⟩) (block_lt_of_cell Hev3.out)).trans Hev3.out)
          have Hb4:=Lib.hid (Hb3.out.trans (hb.mono Hb3.out.size))
          clear hb
          go_wp2_with fail
          have hev:=Hev4.out
          go_quiet (fail)
          go_wp2_with fail
          go_ret2
          exact ⟨RdRet.bad (HN.out),below_drewN Hb4.out _⟩
        | some us =>
          obtain ⟨pi1,pi2,pi3,pi4⟩:=readP_inv h1 h5 hP
          have HOu:=Lib.hid pi3
          have husl:us.length ≤ 20000:=by omega
          have HP:=Lib.hid hP
          rw [hP] at HC3
          have hws:=placeW_le2 (n:=many) (by omega)
          have HWm:=Lib.hid (fun w1=>width_many many (by omega) w1)
          have hrs:(s.extract (u + m) s.size).size ≤ 200000:=by simp;omega
          have hrl:(s.extract (u + m) s.size).size = s.size - (u + m):=by simp
          have hre:=bext_list s (u + m)
          have HC5:=Lib.hid (fun w1 hh=>readRuns_any (s.extract (u + m) s.size) (placeW many) n T x w1 hws hn hrs hh)
          rw [hre] at HC5
          clear pi1 pi2 pi3 pi4 hP hrs
          clear hre
          generalize hpw:placeW many = pw at *
          have Hpw:=Lib.hid hpw
          clear hpw
          cases hR:readR pw n (s.data.toList.drop (u + m)) with
          | none=>as_aux_lemma =>
            have HN:=Lib.hid (show readDi kind s.data.toList n = none from readDi_5 HU.out Hmn.out HT.out HP.out (by rw [Hpw.out];exact hR))
            rw [hR] at HC5
            clear hR
            go_enter Tryz.func48,Tryz.ntmps48
            go_wp2_with fail
            refine HK.out.mono ?_;rintro e w1 ⟨rfl,hw1⟩
            subst hw1
            have Hb1:=Lib.hid (Below.refl w1.heap.size w1)
            go_wp2_with fail
            refine (HC.out w1 Hev1.out).mono ?_;rintro e w2 ⟨rfl,hb⟩
            have Hev2:=Lib.hid ((hb.cell (p:=⟨1,0,none⟩) (block_lt_of_cell Hev1.out)).trans Hev1.out)
            have Hb2:=Lib.hid (Hb1.out.trans (hb.mono Hb1.out.size))
            clear hb
            go_wp2_with fail
            refine (HC2.out w2 Hev2.out).mono ?_;rintro e w3 ⟨rfl,hb⟩
            have Hev3:=Lib.hid ((hb.cell (p:=⟨1,0,none⟩) (block_lt_of_cell Hev2.out)).trans Hev2.out)
            have Hb3:=Lib.hid (Hb2.out.trans (hb.mono Hb2.out.size))
            clear hb
            go_wp2_with fail
            refine (HC3.out w3 Hev3.out).mono ?_;rintro e w4 ⟨⟨vs,rfl,hvs⟩,hb⟩
            have Hev4:=Lib.hid ((hb.cell (p:=⟨1,0,none⟩) (block_lt_of_cell Hev3.out)).trans Hev3.out)
            have Hb4:=Lib.hid (Hb3.out.trans (hb.mono Hb3.out.size))
            have HVs:=Lib.hid (IsVals.of_own hvs)
            obtain ⟨adv,capv,rfl⟩:=bslice_form hvs
            clear hb hvs
            go_wp2_with fail
            refine (HWm.out w4).mono ?_;rintro e w5 ⟨rfl,hw5⟩
            subst hw5
            go_wp2_with fail
            refine (HC5.out w5 Hev4.out).mono ?_;rintro e w6 ⟨rfl,hb⟩
            have hev:=(hb.cell (p:=⟨1,0,none⟩) (block_lt_of_cell Hev4.out)).trans Hev4.out
            have Hb6:=Lib.hid (Hb4.out.trans (hb.mono Hb4.out.size))
            clear hb
            go_wp2_with fail
            go_quiet (fail)
            go_wp2_with fail
            go_ret2
            exact ⟨RdRet.bad HN.out,below_drewN Hb6.out _⟩
          | some y =>
            obtain ⟨ps,k⟩:=y
            have hplen:=readR_len2 pw n n _ ps k rfl hR
            have hpl2:ps.length ≤ 20000:=by omega
            have hnl:n = ps.length:=hplen.symm
            have Hnl:=Lib.hid hnl
            clear hplen hnl
            have h6:=readDi_6 HU.out Hmn.out HT.out HP.out (by rw [Hpw.out];exact hR)
            rw [hR] at HC5
            have H6:=Lib.hid h6
            have hdl:(s.data.toList.drop (u + m)).length = s.size - (u + m):=by rw [List.length_drop,Hsl.out]
            rw [hdl] at H6
            clear hR h6 hdl hrl
            have HOu2:=HOu
            go_enter Tryz.func48,Tryz.ntmps48
            go_wp2_with fail
            refine HK.out.mono ?_;rintro e w1 ⟨rfl,hw1⟩
            subst hw1
            have Hb1:=Lib.hid (Below.refl w1.heap.size w1)
            go_wp2_with fail
            refine (HC.out w1 Hev1.out).mono ?_;rintro e w2 ⟨rfl,hb⟩
            have Hev2:=Lib.hid ((hb.cell (p:=⟨1,0,none⟩) (block_lt_of_cell Hev1.out)).trans Hev1.out)
            have Hb2:=Lib.hid (Hb1.out.trans (hb.mono Hb1.out.size))
            clear hb
            go_wp2_with fail
            refine (HC2.out w2 Hev2.out).mono ?_;rintro e w3 ⟨rfl,hb⟩
            have Hev3:=Lib.hid ((hb.cell (p:=⟨1,0,none⟩) (block_lt_of_cell Hev2.out)).trans Hev2.out)
            have Hb3:=Lib.hid (Hb2.out.trans (hb.mono Hb2.out.size))
            clear hb
            go_wp2_with fail
            refine (HC3.out w3 Hev3.out).mono ?_;rintro e w4 ⟨⟨vs,rfl,hvs⟩,hb⟩
            have Hev4:=Lib.hid ((hb.cell (p:=⟨1,0,none⟩) (block_lt_of_cell Hev3.out)).trans Hev3.out)
            have Hb4:=Lib.hid (Hb3.out.trans (hb.mono Hb3.out.size))
            have HVs:=Lib.hid (IsVals.of_own hvs)
            obtain ⟨adv,capv,rfl⟩:=bslice_form hvs
            clear hb hvs
            go_wp2_with fail
            refine (HWm.out w4).mono ?_;rintro e w5 ⟨rfl,hw5⟩
            subst hw5
            go_wp2_with fail
            refine (HC5.out w5 Hev4.out).mono ?_;rintro e w6 ⟨⟨pv,rfl,hps⟩,hb⟩
            have Hev6:=Lib.hid ((hb.cell (p:=⟨1,0,none⟩) (block_lt_of_cell Hev4.out)).trans Hev4.out)
            have Hb6:=Lib.hid (Hb4.out.trans (hb.mono Hb4.out.size))
            have HVs6:=Lib.hid (HVs.out.below hb (Nat.le_refl _))
            have HPs:=Lib.hid (nums_nat hps)
            obtain ⟨adp,capp,rfl⟩:=bslice_form hps
            clear hb hps
            by_cases hk:k = s.size - (u + m)
            rotate_left
            focus
              have HN:=Lib.hid (show readDi kind s.data.toList n = none by rw [H6.out,if_neg (fun hh=>hk hh.1)])
              have hkI:((k:Int) != ((s.size - (u + m):Nat):Int)) = true:=by rw [bne_iff_ne];omega
              have hev:=Hev6.out
              go_wp2_with fail
              go_quiet (fail)
              go_wp2_with fail
              go_ret2
              exact ⟨RdRet.bad HN.out,below_drewN Hb6.out _⟩
            subst hk
            go_wp2_with fail
            obtain ⟨f,hf⟩:∃ f:Nat → Val,f = fun p=>us.getD p zeroV:=⟨_,rfl⟩
            rw [← hf] at H6
            have HfO:=Lib.hid (show ∀ p,p < us.length → (f p).Ok from fun p hp=>by rw [hf];exact getD_ok HOu.out hp)
            have HfA:=Lib.hid (show ∀ p,p < us.length → us[p]? = some (f p) from fun p hp=>by rw [hf];exact getD_at hp)
            clear hf
            have hws6:=Hb6.out.size
            go_loopw [17,94] (fun lv iv wr=>∃ j:Nat,j ≤ ps.length ∧ iv = .int .i64 (j:Nat) ∧ wr.ownsRow w6.heap.size 41 3 lv ((ps.take j).map f).length (((ps.take j).map f).flatMap valCells) ∧ (∀ p ∈ ps.take j,p < us.length) ∧ Below w6.heap.size w6 wr) (fun _ iv _=>ps.length - (intOf iv).toNat)
            case atStart=>exact ⟨0,Nat.zero_le _,rfl,World.ownsRow_nil _ _ _ _,by simp,Below.refl _ _⟩
            case round =>
              obtain ⟨j,hj,rfl,hown,hall,hb⟩:=hrel
              have Hown:=Lib.hid hown;have Hall:=Lib.hid hall;have Hb:=Lib.hid hb
              have Hbw:=Lib.hid (Hb6.out.trans (hb.mono hws6))
              have hbs:=hb.size
              have hevr:=(hb.cell (p:=⟨1,0,none⟩) (block_lt_of_cell Hev6.out)).trans Hev6.out
              have Hevr:=Lib.hid hevr
              clear hown hall hb hevr
              by_cases hlt:j < ps.length
              · have hltI:(j:Int) < (ps.length:Int):=by omega
                obtain ⟨b1,o1,rfl,hq1,hlt1,hc1⟩:=(HPs.out.below Hb.out (Nat.le_refl _)).at (by rw [show (ints ps).length = ps.length from List.length_map _];omega)
                have hcp:=hc1 j ((ps[j]:Nat):Int) (by rw [show ints ps = ps.map (fun (q:Nat)=>(q:Int)) from rfl,List.getElem?_map,List.getElem?_eq_getElem hlt];rfl)
                have hpm:ps[j] ∈ ps:=List.getElem_mem hlt
                have htk:ps.take (j + 1) = ps.take j ++ [ps[j]]:=List.take_succ_eq_append_getElem hlt
                generalize ps[j] = p at *
                have Htk:=Lib.hid htk
                clear hc1 htk hq1
                by_cases hp:p < us.length
                · obtain ⟨b2,o2,rfl,hq2,hlt2,hc2⟩:=(HVs6.out.below Hb.out (Nat.le_refl _)).at (by omega)
                  have hcx:=hc2 p (f p) (HfA.out p hp)
                  have Hcx:=Lib.hid hcx.cells
                  have hpI:¬ (us.length:Int) ≤ (p:Int):=by omega
                  have hpI2:(p:Int) < (us.length:Int):=by omega
                  have hl2:((ps.take j).map f).length ≤ 20000:=by rw [List.length_map,List.length_take];omega
                  have hvs:(valA (f p)).size = 3:=rfl
                  clear hc2 hcx hq2
                  go_wp2_with (first
                    | (refine wpList_load_cells rfl 41 _ rfl b2 (o2 + p * 3) rfl (valA (f p)) _ Hcx.out Tryz.underlying41 rfl hszv ?_)
                    | (at_builtin;refine wpList_pushVal rfl _ _ rfl w6.heap.size _ ((ps.take j).map f) rfl Hown.out _ _ rfl rfl hl2 hbs (f p) _ rfl ?_;intro v' w8 hown' hgrow' hb';have HO8:=Lib.hid hown';have HB8:=Lib.hid (Hb.out.trans hb');clear hown' hgrow' hb'))
                  go_roundw
                  case rel =>
                    have hO9:=HO8.out
                    rw [show (ps.take j).map f ++ [f p] = (ps.take (j + 1)).map f by rw [Htk.out];simp] at hO9
                    refine ⟨j + 1,by omega,by go_num,hO9,?_,HB8.out⟩
                    intro q hq
                    rw [Htk.out] at hq
                    rcases List.mem_append.1 hq with hq | hq
                    · exact Hall.out q hq
                    · obtain rfl:=List.mem_singleton.1 hq;exact hp
                  case measure=>simp [intOf];omega
                · have HN:=Lib.hid (show readDi kind s.data.toList n = none by rw [H6.out,if_neg (fun hh=>hp (hh.2.1 p hpm))])
                  have hpI:(us.length:Int) ≤ (p:Int):=by omega
                  have hev:=Hevr.out
                  go_wp2_with fail
                  go_quiet (fail)
                  go_wp2_with fail
                  go_ret2
                  exact ⟨RdRet.bad HN.out,below_drewN Hbw.out _⟩
              · obtain rfl:j = ps.length:=by omega
                rw [List.take_length] at Hown Hall
                have hlO:∀ z ∈ ps.map f,z.Ok:=fun z hz=>by
                  obtain ⟨q,hq,rfl⟩:=List.mem_map.1 hz
                  exact HfO.out q (Hall.out q hq)
                have HUn:=Lib.hid (fun v=>fun (h:IsVals wr v (ps.map f))=>unlike_any v (ps.map f) wr h (by rw [List.length_map];omega) hlO)
                have HIl:=Lib.hid (IsVals.of_own Hown.out)
                rw [List.length_map] at Hown
                obtain ⟨adl,capl,rfl⟩:=bslice_form Hown.out
                clear hlO
                go_wp2_with fail
                refine (HUn.out _ HIl.out).mono ?_;rintro e w7 ⟨⟨vs2,ps2,rfl,hv2,_⟩,hb7⟩
                have Ho7:=Lib.hid (bown_below Hown.out hb7)
                have Hb7:=Lib.hid (Hbw.out.trans (hb7.mono Hbw.out.size))
                have Hev7:=Lib.hid ((hb7.cell (p:=⟨1,0,none⟩) (block_lt_of_cell Hevr.out)).trans Hevr.out)
                have HVs7:=Lib.hid ((HVs6.out.below Hb.out (Nat.le_refl _)).below hb7 (Nat.le_refl _))
                have HI7:=Lib.hid (IsVals.of_own hv2)
                obtain ⟨adf,capf,rfl⟩:=bslice_form hv2
                have H7:=Lib.hid (show readDi kind s.data.toList n = if sameB (unlikeV [] (ps.map f)) us = true then some (ps.map f) else none by
                  rw [H6.out]
                  by_cases h:sameB (unlikeV [] (ps.map f)) us = true
                  · rw [if_pos ⟨by first | rfl | trivial,Hall.out,h⟩,if_pos h]
                  · rw [if_neg (fun hh=>h hh.2.2),if_neg h])
                clear hb7 hv2
                generalize unlikeV [] (ps.map f) = fs at *
                by_cases hfl:fs.length = us.length
                rotate_left
                focus
                  have HN:=Lib.hid (show readDi kind s.data.toList n = none by rw [H7.out,sameB_len hfl];rfl)
                  have hflI:((fs.length:Int) != (us.length:Int)) = true:=by rw [bne_iff_ne];omega
                  have hev:=Hev7.out
                  go_wp2_with fail
                  go_quiet (fail)
                  go_wp2_with fail
                  go_ret2
                  exact ⟨RdRet.bad HN.out,below_drewN Hb7.out _⟩
                have hflI:((fs.length:Int) != (us.length:Int)) = false:=by rw [bne_eq_false_iff_eq];omega
                go_wp2_with fail
                have hws7:=Hb7.out.size
                go_loopw [124] (fun iv w9=>∃ j:Nat,j ≤ fs.length ∧ iv = .int .i64 (j:Nat) ∧ Below w7.heap.size w7 w9 ∧ ∀ (i:Nat) (a b:Val),i < j → fs[i]? = some a → us[i]? = some b → a = b) (fun iv _=>fs.length - (intOf iv).toNat)
                case atStart=>exact ⟨0,Nat.zero_le _,rfl,Below.refl _ _,fun i a b h=>by omega⟩
                case round =>
                  obtain ⟨j,hj,rfl,hb9,hsame⟩:=hrel
                  have Hsame:=Lib.hid hsame
                  have Hb9:=Lib.hid (Hb7.out.trans (hb9.mono hws7))
                  have Hbb:=Lib.hid hb9
                  clear hsame hb9
                  by_cases hlt:j < fs.length
                  · have hltI:(j:Int) < (fs.length:Int):=by omega
                    have hltU:(j:Int) < (us.length:Int):=by omega
                    obtain ⟨b3,o3,rfl,hq3,hlt3,hc3⟩:=(HI7.out.below Hbb.out (Nat.le_refl _)).at (by omega)
                    obtain ⟨b4,o4,rfl,hq4,hlt4,hc4⟩:=(HVs7.out.below Hbb.out (Nat.le_refl _)).at (by omega)
                    have hX:=List.getElem?_eq_getElem hlt
                    have hY:=List.getElem?_eq_getElem (show j < us.length by omega)
                    have hcx:=hc3 j _ hX
                    have hcy:=hc4 j _ hY
                    generalize (us[j]'(by omega)) = Y at *
                    generalize fs[j] = X at *
                    have Hcx:=Lib.hid hcx.cells
                    have hvX:ValAt (wr.alloc (.cells (valA X) 41)) wr.heap.size 0 X:=⟨by rw [World.cell?_alloc_at _ _ _ _ rfl];rfl,by rw [World.cell?_alloc_at _ _ _ _ rfl];rfl,by rw [World.cell?_alloc_at _ _ _ _ rfl];rfl⟩
                    have hvY:=hcy.below ((Below.refl wr.heap.size wr).alloc (Nat.le_refl _) (.cells (valA X) 41)) hlt4
                    have l1:=loadV hvX
                    have l2:=loadV hvY
                    have e1:=fun w=>neq_val X Y w
                    have hvs:(valA X).size = 3:=rfl
                    have hba:=Lib.hid ((Hb9.out).alloc Hb9.out.size (.cells (valA X) 41))
                    have hbc:=Lib.hid ((Hbb.out).alloc Hbb.out.size (.cells (valA X) 41))
                    have HX:=Lib.hid hX;have HY:=Lib.hid hY
                    clear hc3 hc4 hcx hcy hvX hvY hX hY hq3 hq4
                    go_wp2_with (first
                      | (refine wpList_load_cells rfl 41 _ rfl b3 (o3 + j * 3) rfl (valA X) _ Hcx.out Tryz.underlying41 rfl hszv ?_)
                      | (refine wpList_alloc_row rfl 41 rfl iv _ _ hiv hzv rfl ?_)
                      | (refine wpList_store_new rfl rfl 41 _ _ rfl rfl _ (valA X) rfl hszv rfl (valA_one X) ?_))
                    cases he:valEq X Y
                    · rw [he] at e1
                      have HN:=Lib.hid (show readDi kind s.data.toList n = none by rw [H7.out,sameB_at HX.out HY.out he];rfl)
                      clear he
                      refine wp_region_quiet_lit (by kernel_rfl) (by kernel_rfl) ?_
                      repeat (go_big_quiet_step (fail))
                      refine wpQuiet_loadS rfl _ _ rfl _ rfl _ (fun w ⟨q,hq⟩=>by rw [hq];exact l2 _) ?_
                      refine wpQuiet_binS rfl .neq _ _ _ _ rfl (.agg (valA X)) (.agg (valA Y)) _ rfl rfl (fun w=>val_guard _ _ _ X Y w) e1 ?_
                      refine wpQuiet_nil ?_
                      rintro w' ⟨q,hq⟩
                      have hbz:=below_drewN hba.out q
                      have hbcz:=below_drewN hbc.out q
                      rw [← hq] at hbz hbcz
                      have Hbz:=Lib.hid hbz;have Hbcz:=Lib.hid hbcz
                      have hevz:=(hbcz.cell (p:=⟨1,0,none⟩) (block_lt_of_cell Hev7.out)).trans Hev7.out
                      clear hq hbz hbcz l1 l2 e1
                      go_simp
                      go_wp2_with fail
                      go_quiet (fail)
                      go_wp2_with fail
                      go_ret2
                      exact ⟨RdRet.bad HN.out,below_drewN Hbz.out _⟩
                    · rw [he] at e1
                      have heq:X = Y:=(valEq_iff X Y).1 he
                      have Heq:=Lib.hid heq
                      clear he heq
                      refine wp_region_quiet_lit (by kernel_rfl) (by kernel_rfl) ?_
                      repeat (go_big_quiet_step (fail))
                      refine wpQuiet_loadS rfl _ _ rfl _ rfl _ (fun w ⟨q,hq⟩=>by rw [hq];exact l2 _) ?_
                      refine wpQuiet_binS rfl .neq _ _ _ _ rfl (.agg (valA X)) (.agg (valA Y)) _ rfl rfl (fun w=>val_guard _ _ _ X Y w) e1 ?_
                      refine wpQuiet_nil ?_
                      rintro w' ⟨q,hq⟩
                      have hbz:=below_drewN hba.out q
                      have hbcz:=below_drewN hbc.out q
                      rw [← hq] at hbz hbcz
                      have Hbz:=Lib.hid hbz;have Hbcz:=Lib.hid hbcz
                      have hevz:=(hbcz.cell (p:=⟨1,0,none⟩) (block_lt_of_cell Hev7.out)).trans Hev7.out
                      clear hq hbz hbcz l1 l2 e1
                      clear hevz
                      go_simp
                      go_wp2_with fail
                      go_roundw
                      case rel =>
                        refine ⟨j + 1,by omega,by go_num,Hbcz.out,?_⟩
                        intro i a b hi ha hb
                        by_cases hij:i < j
                        · exact Hsame.out i a b hij ha hb
                        · obtain rfl:i = j:=by omega
                          obtain rfl:=Option.some.inj (HX.out.symm.trans ha)
                          obtain rfl:=Option.some.inj (HY.out.symm.trans hb)
                          exact Heq.out
                      case measure=>simp [intOf];omega
                  · obtain rfl:j = fs.length:=by omega
                    have HN:=Lib.hid (show readDi kind s.data.toList n = some (ps.map f) by
                      rw [H7.out,if_pos (sameB_all hfl fun i a b h1 h2=>Hsame.out i a b (List.getElem?_eq_some_iff.1 h1).1 h1 h2)])
                    have HOe:=Lib.hid (bown_below Ho7.out Hbb.out)
                    go_wp2_with fail
                    go_ret2
                    exact ⟨RdRet.good HN.out (by rw [List.length_map];exact bown_base HOe.out (Nat.le_trans Hb6.out.size (Nat.le_refl _))),Hb9.out⟩
end Go.Proofs.YtapiabmmfmfaeaaGreatDoor
