/- The walk of the document's ReadDeltaOf. -/
import Derived.Test.YtapiabmmfmfaeaaGreatDoorMRd
import Derived.Test.YtapiabmmfmfaeaaGreatDoorMRf
import Derived.Test.YtapiabmmfmfaeaaGreatDoorMDelc
import Derived.Test.YtapiabmmfmfaeaaGreatDoorMDict
namespace Go.Proofs.YtapiabmmfmfaeaaGreatDoor
set_option maxHeartbeats 8000000
set_option linter.unusedVariables false
open Go Go.RowKit Go.ChangeShapes
theorem i64_add3 (p x:Int) (g:Nat):wrap64 (wrap64 (p + x) + wrap64 (g:Int)) = a64 p (x + (g:Int)):=by
 unfold a64 wrap64;rw [IntKind.wrap_i64];omega
theorem dAll_none {s:List UInt8} {n:Nat} (h0:0 < n) (h:readV s = none):dAll s n = none:=by unfold dAll;rw [if_neg (by omega),h]
theorem dAll_some {s:List UInt8} {n k:Nat} {x:Int} (h0:0 < n) (h:readV s = some (x,k)):dAll s n = (dParse x (n - 1) (s.drop k)).map ([x] ++ ·):=by unfold dAll;rw [if_neg (by omega),h];rfl
theorem take_last (G:List Nat) (j:Nat) (hj:j < G.length):G.take (j + 1) = G.take j ++ [G[j]]:=List.take_succ_eq_append_getElem hj
set_option maxRecDepth 100000 in
theorem readDeltaOf_any (kind:Int) (hk:kind = 2 ∨ kind = 3) (s:ByteArray) (n:Nat) (w:World) (hn:n ≤ 20000) (hs:s.size ≤ 200000) :
    Calls Tryz.prog 60 #[.int .i64 kind,.string s,.int .i64 (n:Nat)] w fun e w'=>RfRet w.heap.size (readD kind s.data.toList n) e w' ∧ Below w.heap.size w w':=by
  obtain ⟨iv,hiv,hzv,hsv⟩:=val_info
  have hszv:(Tryz.prog.info? 41).map (·.size) = some (valA ⟨0,0,⟨#[]⟩⟩).size:=by rw [hiv];simp [hsv,valA]
  have Hk:=Lib.hid hk
  clear hk
  go_enter Tryz.func60,Tryz.ntmps60
  go_wp2_with fail
  go_loopw [8,9] (fun u re wr=>∃ (L:List Int) (r:ByteArray),L.length ≤ n ∧ re = .string r ∧ r.size ≤ s.size ∧ wr.ownsRow w.heap.size 41 3 u L.length ((L.map (numI kind)).flatMap valCells) ∧ Below w.heap.size w wr ∧
    ((L = [] ∧ r = s) ∨ (0 < L.length ∧ (-9223372036854775808 ≤ L.getLastD 0 ∧ L.getLastD 0 < 9223372036854775808) ∧ dAll s.data.toList n = (dParse (L.getLastD 0) (n - L.length) r.data.toList).map (L ++ ·)))) (fun u _ _=>n - lenOf u)
  case atStart=>exact ⟨[],s,Nat.zero_le _,rfl,Nat.le_refl _,World.ownsRow_nil _ _ _ _,Below.refl _ _,.inl ⟨rfl,rfl⟩⟩
  case round =>
    obtain ⟨L,r,hLn,rfl,hrs,hown,hb,hinv⟩:=hrel
    have Hown:=Lib.hid hown;have Hb:=Lib.hid hb
    have hbs:=hb.size
    have hrm:r.size ≤ maxLen:=by unfold maxLen;omega
    have hrl:r.data.toList.length = r.size:=by simp
    have HmL:=Lib.hid (show (L.map (numI kind)).length = L.length from List.length_map _)
    clear hb
    by_cases hlt:L.length < n
    · have hlt':(L.length:Int) < (n:Int):=by omega
      cases hV:readV r.data.toList with
      | none=>as_aux_lemma =>
        have HX:=Lib.hid (fun w1=>readSigned_none r w1 hrm hV)
        have HN:=Lib.hid (show readD kind s.data.toList n = none from readD_none (by
          rcases hinv with ⟨_,rfl⟩ | ⟨_,_,hi⟩
          · exact dAll_none (by omega) hV
          · rw [hi,dParse_none _ _ _ (by omega) hV];rfl))
        obtain ⟨adu,capu,rfl⟩:=bslice_form hown
        clear hV hown hinv
        go_wp2_with fail
        refine (HX.out _).mono ?_;rintro e w2 ⟨rfl,rfl⟩
        go_wp2_with fail
        go_ret2
        exact ⟨RfRet.bad HN.out rfl,Hb.out⟩
      | some y =>
        obtain ⟨x,k⟩:=y
        have HX:=Lib.hid (fun w1=>readSigned_some r w1 hrm hV)
        have hkv:=readV_in hV
        rw [hrl] at hkv
        obtain ⟨hx0,hx1,hk0,hk'⟩:=hkv
        have hk0I:((k:Int) == 0) = false:=by rw [beq_eq_false_iff_ne];omega
        rcases hinv with ⟨rfl,rfl⟩ | ⟨hL0,⟨hp0,hp1⟩,hinv⟩
        · as_aux_lemma =>
          have HD:=Lib.hid (dAll_some (n:=n) (by omega) hV)
          have he:=bext_list r k
          obtain ⟨adu,capu,rfl⟩:=bslice_form hown
          clear hV hown
          go_wp2_with fail
          refine (HX.out _).mono ?_;rintro e w2 ⟨rfl,rfl⟩
          go_wp2_with (at_builtin;refine wpList_pushVal rfl _ _ rfl w.heap.size _ [] rfl Hown.out _ _ rfl rfl (by decide) hbs (numI kind x) _ rfl ?_;intro v' w3 hown' hgrow' hb';have HO3:=Lib.hid hown';have HB3:=Lib.hid (Hb.out.trans hb');clear hown' hgrow' hb')
          go_roundw
          case rel=>exact ⟨[x],r.extract k r.size,by simp;omega,rfl,by simp,HO3.out,HB3.out,.inr ⟨Nat.zero_lt_one,⟨hx0,hx1⟩,by rw [HD.out,he];rfl⟩⟩
          case measure =>
            obtain ⟨ad5,cap5,hv5⟩:=bslice_form HO3.out
            subst hv5
            simp [lenOf];omega
        · have hLne:((L.length:Int) == 0) = false:=by rw [beq_eq_false_iff_ne];omega
          obtain ⟨lf,hlf⟩:∃ lf,n - L.length = lf:=⟨_,rfl⟩
          have hlf0:0 < lf:=by omega
          have hlfI:(n:Int) - (L.length:Int) = (lf:Int):=by omega
          have Hlf:=Lib.hid hlf
          rw [hlf] at hinv
          have Hinv:=Lib.hid hinv
          clear hlf hinv
          obtain ⟨p,hp⟩:∃ p,L.getLastD 0 = p:=⟨_,rfl⟩
          have Hp:=Lib.hid hp
          rw [hp] at Hinv hp0 hp1
          clear hp
          have he:=bext_list r k
          have hr1le:(r.extract k r.size).size ≤ s.size:=by simp;omega
          have hr1s:(r.extract k r.size).size = r.size - k:=by simp
          obtain ⟨adu,capu,rfl⟩:=bslice_form hown
          clear hown
          generalize hr1:r.extract k r.size = r1 at *
          have HV:=Lib.hid hV
          clear hV hrl
          cases hd:r.data.toList.drop k with
          | nil=>as_aux_lemma =>
            have HN:=Lib.hid (show readD kind s.data.toList n = none from readD_none (by rw [Hinv.out,dParse_end p lf _ hlf0 HV.out hd];rfl))
            rw [hd] at he
            have h10:r1.size = 0:=by rw [← size_data,he];rfl
            obtain rfl:=empty_list h10
            clear hd he h10 hr1s hr1le
            go_wp2_with fail
            refine (HX.out _).mono ?_;rintro e w2 ⟨rfl,rfl⟩
            by_cases h32:32 < lf
            · have h32I:(32:Int) < (lf:Int):=by omega
              go_wp2_with fail
              go_ret2
              exact ⟨RfRet.bad HN.out rfl,Hb.out⟩
            · have h32I:(lf:Int) ≤ 32:=by omega
              go_wp2_with fail
              go_ret2
              exact ⟨RfRet.bad HN.out rfl,Hb.out⟩
          | cons c rest =>
            clear hr1s
            rw [hd] at he
            have h1pos:0 < r1.size:=by rw [← size_data,he];simp
            have hc0:r1[0] = c:=by
              have h:=bdata_get h1pos
              rw [he] at h
              simpa using h.symm
            have hre:(r1.extract 1 r1.size).data.toList = rest:=by rw [bext_list,he];rfl
            have hrl:rest.length + 1 = r1.size:=by rw [← size_data,he];rfl
            have hne1:¬ r1.toList = []:=by rw [ByteArray.toList_eq,he];simp
            have hie1:r1.toList.isEmpty = false:=by rw [empty_beq',decide_eq_false_iff_not];omega
            have hc8:=c.toNat_lt
            have HD:=Lib.hid hd
            have He:=Lib.hid he
            clear hd he
            by_cases hc64:64 < c.toNat
            · as_aux_lemma =>
              have HN:=Lib.hid (show readD kind s.data.toList n = none from readD_none (by rw [Hinv.out,dParse_bad p lf _ hlf0 HV.out HD.out (.inl hc64)];rfl))
              have hcI:(64:Int) < (c.toNat:Int):=by omega
              go_wp2_with fail
              refine (HX.out _).mono ?_;rintro e w2 ⟨rfl,rfl⟩
              by_cases h32:32 < lf
              · have h32I:(32:Int) < (lf:Int):=by omega
                go_wp2_with fail
                go_ret2
                exact ⟨RfRet.bad HN.out rfl,Hb.out⟩
              · have h32I:(lf:Int) ≤ 32:=by omega
                go_wp2_with fail
                go_ret2
                exact ⟨RfRet.bad HN.out rfl,Hb.out⟩
            · have hcI:(c.toNat:Int) ≤ 64:=by omega
              by_cases h32:32 < lf
              · have h32I:(32:Int) < (lf:Int):=by omega
                have hkk:min 32 lf = 32:=by omega
                have hkwle:32 * c.toNat ≤ 32 * 64:=Nat.mul_le_mul (by omega) (by omega)
                have hkwI:IntKind.i64.wrap ((32:Int) * (c.toNat:Int)) = (32:Int) * (c.toNat:Int):=by rw [show ((32:Int) * (c.toNat:Int)) = ((32 * c.toNat:Nat):Int) by simp];exact wrap_small _ (by omega) (by omega)
                have hrs1:(r1.extract 1 r1.size).size = rest.length:=by rw [← size_data,hre]
                have HC2:=Lib.hid (fun w1=>unpackOf_any64 (r1.extract 1 r1.size) c.toNat 32 w1 (by omega) (by omega) (by rw [hrs1];omega))
                rw [hre,hrs1] at HC2
                obtain ⟨G,hG⟩:∃ G,G = getAll (unlittle rest) c.toNat 32:=⟨_,rfl⟩
                have hGl:G.length = 32:=by rw [hG,getAll_len]
                rw [← hG] at HC2
                obtain ⟨A,hA⟩:∃ A:Nat → List Int,∀ j,A j = adds x p (G.take j):=⟨_,fun _=>rfl⟩
                have HA0:=Lib.hid (show A 0 = [] by rw [hA];rfl)
                have HAs:=Lib.hid (show ∀ (j:Nat) (hj:j < G.length),A (j + 1) = A j ++ [a64 ((A j).getLastD p) (x + (G[j]:Int))] from fun j hj=>by rw [hA,hA,take_last G j hj,adds_snoc])
                have HAl:=Lib.hid (show ∀ j,j ≤ 32 → (A j).length = j from fun j hj=>by rw [hA,adds_len,List.length_take,hGl];omega)
                have HAr:=Lib.hid (show ∀ j,-9223372036854775808 ≤ (A j).getLastD p ∧ (A j).getLastD p < 9223372036854775808 from fun j=>by rw [hA];exact adds_lastin x p ⟨hp0,hp1⟩ _)
                have hAk:A 32 = adds x p G:=by rw [hA,List.take_of_length_le (by rw [hGl];exact Nat.le_refl _)]
                by_cases hfew:8 * rest.length < 32 * c.toNat
                · as_aux_lemma =>
                  have HN:=Lib.hid (show readD kind s.data.toList n = none from readD_none (by rw [Hinv.out,dParse_bad p lf _ hlf0 HV.out HD.out (.inr (by rw [hkk];unfold kB;omega))];rfl))
                  clear hA hG hAk
                  go_wp2_with fail
                  refine (HX.out _).mono ?_;rintro e w2 ⟨rfl,rfl⟩
                  go_wp2_with fail
                  refine (HC2.out _).mono ?_;rintro e w3 ⟨hU | hU,hb3⟩
                  · exact absurd hU.1 (by omega)
                  · obtain ⟨_,rfl⟩:=hU
                    have Hb3:=Lib.hid (Hb.out.trans (hb3.mono hbs))
                    clear hb3
                    go_wp2_with fail
                    go_ret2
                    exact ⟨RfRet.bad HN.out rfl,Hb3.out⟩
                · have hKB:kB 32 c.toNat ≤ rest.length:=by unfold kB;omega
                  have HDP:=Lib.hid (dParse_step p lf _ hlf0 HV.out HD.out (by rw [hkk];omega))
                  rw [hkk,← hG,← hAk] at HDP
                  obtain ⟨KB,hKBe⟩:∃ KB,KB = kB 32 c.toNat:=⟨_,rfl⟩
                  rw [← hKBe] at HDP hKB
                  have hKBI:((32:Int) * (c.toNat:Int) + 7) / 8 = (KB:Int):=by rw [hKBe];unfold kB;rw [show ((32:Int) * (c.toNat:Int)) = ((32 * c.toNat:Nat):Int) by simp];omega
                  have hKBr:(1:Int) + (KB:Int) ≤ (r1.size:Int):=by omega
                  have hr3:(r1.extract (1 + KB) r1.size).data.toList = rest.drop KB:=by rw [bext_list,He.out,Nat.add_comm];rfl
                  have Hr3:=Lib.hid hr3;have HGl:=Lib.hid hGl
                  clear hA hG hAk hKBe hre hrs1 hr3
                  go_wp2_with fail
                  refine (HX.out _).mono ?_;rintro e w2 ⟨rfl,rfl⟩
                  go_wp2_with fail
                  refine (HC2.out _).mono ?_;rintro e w3 ⟨hU | hU,hb3⟩
                  rotate_left
                  focus exact absurd hU.1 hfew
                  obtain ⟨_,uU,rfl,hou⟩:=hU
                  have Hou:=Lib.hid (show w3.ownsRow w2.heap.size 84 1 uU G.length (G.map natU) by rw [HGl.out];exact hou)
                  obtain ⟨adU,capU,hu⟩:=bslice_form hou
                  subst hu
                  have Hb3:=Lib.hid (Hb.out.trans (hb3.mono hbs))
                  have Ho3:=Lib.hid (bown_below Hown.out hb3)
                  have hbs3:=Nat.le_trans hbs hb3.size
                  clear hou hb3 hfew
                  go_wp2_with fail
                  have HKBI:=Lib.hid hKBI;have HKBr:=Lib.hid hKBr;have HhKB:=Lib.hid hKB
                  clear hKBI hKBr hKB hkwle hkwI hGl
                  obtain ⟨B0,hB0⟩:∃ B0,B0 = w2.heap.size:=⟨_,rfl⟩
                  rw [← hB0] at Hou
                  clear hB0
                  go_loopw [8,16] (fun u i w9=>∃ (j:Nat) (pj:Int),j ≤ 32 ∧ i = .int .i64 (j:Nat) ∧ (A j).getLastD p = pj ∧ w9.ownsRow w.heap.size 41 3 u (L.length + j) (((L ++ A j).map (numI kind)).flatMap valCells) ∧ w9.ownsRow B0 84 1 (.slice adU 32 capU) G.length (G.map natU) ∧ Below w.heap.size w w9) (fun _ i _=>32 - (intOf i).toNat)
                  case atStart=>exact ⟨0,p,Nat.zero_le _,rfl,by rw [HA0.out];rfl,by rw [HA0.out,List.append_nil];exact Ho3.out,Hou.out,Hb3.out⟩
                  case round =>
                    obtain ⟨j,pj,hj,rfl,hpj,hown9,hou9,hb9⟩:=hrel
                    have Ho9:=Lib.hid hown9;have Hb9:=Lib.hid hb9;have Hpj:=Lib.hid hpj;have Hou9:=Lib.hid hou9
                    have hbs9:=hb9.size
                    clear hown9 hb9 hpj hou9
                    by_cases hjk:j < 32
                    · have hjI:(j:Int) < 32:=by omega
                      have hjG:j < G.length:=by rw [HGl.out];exact hjk
                      obtain ⟨q,hq⟩:∃ q,L.length + j = q + 1:=⟨L.length + j - 1,by omega⟩
                      have hml:((L ++ A j).map (numI kind)).length = q + 1:=by rw [List.length_map,List.length_append,HAl.out j (by omega)];exact hq
                      have hla:(L ++ A j).length = q + 1:=by rw [List.length_append,HAl.out j (by omega)];exact hq
                      rw [hq] at Ho9
                      have HIs:=Lib.hid (IsVals.of_own (l:=(L ++ A j).map (numI kind)) (B:=w.heap.size) (e:=41) (by rw [hml];exact Ho9.out))
                      obtain ⟨ad9,cap9,hu9⟩:=bslice_form Ho9.out
                      subst hu9
                      obtain ⟨b0,off,rfl,hq0,hlt0,hc⟩:=HIs.out.at (by rw [hml];omega)
                      have hcx:=(hc q _ (last_at kind (L ++ A j) q hla)).2.1
                      rw [getLastD_app,Hp.out,Hpj.out] at hcx
                      have hcp:wr.cell? ⟨b0,off + q * 3 + 1,none⟩ = some (.int .i64 pj):=hcx
                      obtain ⟨b1,o1,he1,hq1,hlt1,hc1⟩:=(numsU_nat Hou9.out).at (by rw [show (ints G).length = G.length from List.length_map _];omega)
                      have hcu:=hc1 j ((G[j]:Nat):Int) (by rw [show ints G = G.map (fun (q:Nat)=>(q:Int)) from rfl,List.getElem?_map,List.getElem?_eq_getElem hjG];rfl)
                      subst he1
                      have HAj:=Lib.hid (HAs.out j hjG)
                      rw [Hpj.out] at HAj
                      have hl9:((L ++ A j).map (numI kind)).length ≤ 20000:=by rw [hml];omega
                      have HOl:=Lib.hid (show wr.ownsRow w.heap.size 41 3 (.slice (some ⟨b0,off,none⟩) (q + 1) cap9) ((L ++ A j).map (numI kind)).length (((L ++ A j).map (numI kind)).flatMap valCells) by rw [hml];exact Ho9.out)
                      have hi3:=i64_add3 pj x G[j]
                      have hqw:wrap64 (q:Int) = (q:Int):=by unfold wrap64;omega
                      generalize G[j] = g at *
                      generalize hav:a64 pj (x + (g:Int)) = av at *
                      have Hhq:=Lib.hid hq;have Hml:=Lib.hid hml
                      clear hc hc1 hcx hq0 hq1 hq hml hla
                      go_wp2_with (at_builtin;refine wpList_pushVal rfl _ _ rfl w.heap.size _ ((L ++ A j).map (numI kind)) rfl HOl.out _ _ rfl rfl hl9 hbs9 (numI kind av) _ ?_ ?_;(focus (first | rfl | exact num_cells' hi3));intro v' w11 hown' hgrow' hb';have HO11:=Lib.hid hown';have HU11:=Lib.hid (own_past HOl.out hgrow' Hou9.out (by decide));have HB11:=Lib.hid (Hb9.out.trans hb');clear hown' hgrow' hb')
                      go_roundw
                      case rel =>
                        have hO12:=HO11.out
                        rw [show (L ++ A j).map (numI kind) ++ [numI kind av] = (L ++ A (j + 1)).map (numI kind) by rw [HAj.out];simp,show ((L ++ A (j + 1)).map (numI kind)).length = L.length + (j + 1) by rw [List.length_map,List.length_append,HAl.out (j + 1) (by omega)]] at hO12
                        exact ⟨j + 1,av,by omega,by go_num,by rw [HAj.out];simp,hO12,HU11.out,HB11.out⟩
                      case measure=>simp [intOf];omega
                    · have hjk2:32 = j:=by omega
                      subst hjk2
                      obtain ⟨ad9,cap9,hu9⟩:=bslice_form Ho9.out
                      subst hu9
                      have HAlk:=Lib.hid (HAl.out 32 (Nat.le_refl _))
                      clear hjk
                      go_wp2_with fail
                      go_roundw
                      case rel =>
                        have hla:(L ++ A 32).length = L.length + 32:=by rw [List.length_append,HAlk.out]
                        refine ⟨L ++ A 32,r1.extract (1 + KB) r1.size,by omega,by first | rfl | simp,by simp;omega,by rw [hla];exact Ho9.out,Hb9.out,.inr ⟨by omega,?_,?_⟩⟩
                        · rw [getLastD_app,Hp.out];exact HAr.out 32
                        · rw [Hinv.out,HDP.out,Option.map_map,Hr3.out,getLastD_app,Hp.out,hla,show n - (L.length + 32) = lf - 32 by have:=Hlf.out;omega]
                          congr 1
                          funext y
                          simp
                      case measure=>simp [lenOf];omega
              · have h32I:(lf:Int) ≤ 32:=by omega
                have hkk:min 32 lf = lf:=by omega
                have hkwle:lf * c.toNat ≤ 32 * 64:=Nat.mul_le_mul (by omega) (by omega)
                have hkwI:IntKind.i64.wrap ((lf:Int) * (c.toNat:Int)) = (lf:Int) * (c.toNat:Int):=by rw [← Int.natCast_mul];exact wrap_small _ (by omega) (by omega)
                have hrs1:(r1.extract 1 r1.size).size = rest.length:=by rw [← size_data,hre]
                have HC2:=Lib.hid (fun w1=>unpackOf_any64 (r1.extract 1 r1.size) c.toNat lf w1 (by omega) (by omega) (by rw [hrs1];omega))
                rw [hre,hrs1] at HC2
                obtain ⟨G,hG⟩:∃ G,G = getAll (unlittle rest) c.toNat lf:=⟨_,rfl⟩
                have hGl:G.length = lf:=by rw [hG,getAll_len]
                rw [← hG] at HC2
                obtain ⟨A,hA⟩:∃ A:Nat → List Int,∀ j,A j = adds x p (G.take j):=⟨_,fun _=>rfl⟩
                have HA0:=Lib.hid (show A 0 = [] by rw [hA];rfl)
                have HAs:=Lib.hid (show ∀ (j:Nat) (hj:j < G.length),A (j + 1) = A j ++ [a64 ((A j).getLastD p) (x + (G[j]:Int))] from fun j hj=>by rw [hA,hA,take_last G j hj,adds_snoc])
                have HAl:=Lib.hid (show ∀ j,j ≤ lf → (A j).length = j from fun j hj=>by rw [hA,adds_len,List.length_take,hGl];omega)
                have HAr:=Lib.hid (show ∀ j,-9223372036854775808 ≤ (A j).getLastD p ∧ (A j).getLastD p < 9223372036854775808 from fun j=>by rw [hA];exact adds_lastin x p ⟨hp0,hp1⟩ _)
                have hAk:A lf = adds x p G:=by rw [hA,List.take_of_length_le (by rw [hGl];exact Nat.le_refl _)]
                by_cases hfew:8 * rest.length < lf * c.toNat
                · as_aux_lemma =>
                  have HN:=Lib.hid (show readD kind s.data.toList n = none from readD_none (by rw [Hinv.out,dParse_bad p lf _ hlf0 HV.out HD.out (.inr (by rw [hkk];unfold kB;omega))];rfl))
                  clear hA hG hAk
                  go_wp2_with fail
                  refine (HX.out _).mono ?_;rintro e w2 ⟨rfl,rfl⟩
                  go_wp2_with fail
                  refine (HC2.out _).mono ?_;rintro e w3 ⟨hU | hU,hb3⟩
                  · exact absurd hU.1 (by omega)
                  · obtain ⟨_,rfl⟩:=hU
                    have Hb3:=Lib.hid (Hb.out.trans (hb3.mono hbs))
                    clear hb3
                    go_wp2_with fail
                    go_ret2
                    exact ⟨RfRet.bad HN.out rfl,Hb3.out⟩
                · have hKB:kB lf c.toNat ≤ rest.length:=by unfold kB;omega
                  have HDP:=Lib.hid (dParse_step p lf _ hlf0 HV.out HD.out (by rw [hkk];omega))
                  rw [hkk,← hG,← hAk] at HDP
                  obtain ⟨KB,hKBe⟩:∃ KB,KB = kB lf c.toNat:=⟨_,rfl⟩
                  rw [← hKBe] at HDP hKB
                  have hKBI:((lf:Int) * (c.toNat:Int) + 7) / 8 = (KB:Int):=by rw [hKBe];unfold kB;rw [← Int.natCast_mul];omega
                  have hKBr:(1:Int) + (KB:Int) ≤ (r1.size:Int):=by omega
                  have hr3:(r1.extract (1 + KB) r1.size).data.toList = rest.drop KB:=by rw [bext_list,He.out,Nat.add_comm];rfl
                  have Hr3:=Lib.hid hr3;have HGl:=Lib.hid hGl
                  clear hA hG hAk hKBe hre hrs1 hr3
                  go_wp2_with fail
                  refine (HX.out _).mono ?_;rintro e w2 ⟨rfl,rfl⟩
                  go_wp2_with fail
                  refine (HC2.out _).mono ?_;rintro e w3 ⟨hU | hU,hb3⟩
                  rotate_left
                  focus exact absurd hU.1 hfew
                  obtain ⟨_,uU,rfl,hou⟩:=hU
                  have Hou:=Lib.hid (show w3.ownsRow w2.heap.size 84 1 uU G.length (G.map natU) by rw [HGl.out];exact hou)
                  obtain ⟨adU,capU,hu⟩:=bslice_form hou
                  subst hu
                  have Hb3:=Lib.hid (Hb.out.trans (hb3.mono hbs))
                  have Ho3:=Lib.hid (bown_below Hown.out hb3)
                  have hbs3:=Nat.le_trans hbs hb3.size
                  clear hou hb3 hfew
                  go_wp2_with fail
                  have HKBI:=Lib.hid hKBI;have HKBr:=Lib.hid hKBr;have HhKB:=Lib.hid hKB
                  clear hKBI hKBr hKB hkwle hkwI hGl
                  obtain ⟨B0,hB0⟩:∃ B0,B0 = w2.heap.size:=⟨_,rfl⟩
                  rw [← hB0] at Hou
                  clear hB0
                  go_loopw [8,16] (fun u i w9=>∃ (j:Nat) (pj:Int),j ≤ lf ∧ i = .int .i64 (j:Nat) ∧ (A j).getLastD p = pj ∧ w9.ownsRow w.heap.size 41 3 u (L.length + j) (((L ++ A j).map (numI kind)).flatMap valCells) ∧ w9.ownsRow B0 84 1 (.slice adU lf capU) G.length (G.map natU) ∧ Below w.heap.size w w9) (fun _ i _=>lf - (intOf i).toNat)
                  case atStart=>exact ⟨0,p,Nat.zero_le _,rfl,by rw [HA0.out];rfl,by rw [HA0.out,List.append_nil];exact Ho3.out,Hou.out,Hb3.out⟩
                  case round =>
                    obtain ⟨j,pj,hj,rfl,hpj,hown9,hou9,hb9⟩:=hrel
                    have Ho9:=Lib.hid hown9;have Hb9:=Lib.hid hb9;have Hpj:=Lib.hid hpj;have Hou9:=Lib.hid hou9
                    have hbs9:=hb9.size
                    clear hown9 hb9 hpj hou9
                    by_cases hjk:j < lf
                    · have hjI:(j:Int) < lf:=by omega
                      have hjG:j < G.length:=by rw [HGl.out];exact hjk
                      obtain ⟨q,hq⟩:∃ q,L.length + j = q + 1:=⟨L.length + j - 1,by omega⟩
                      have hml:((L ++ A j).map (numI kind)).length = q + 1:=by rw [List.length_map,List.length_append,HAl.out j (by omega)];exact hq
                      have hla:(L ++ A j).length = q + 1:=by rw [List.length_append,HAl.out j (by omega)];exact hq
                      rw [hq] at Ho9
                      have HIs:=Lib.hid (IsVals.of_own (l:=(L ++ A j).map (numI kind)) (B:=w.heap.size) (e:=41) (by rw [hml];exact Ho9.out))
                      obtain ⟨ad9,cap9,hu9⟩:=bslice_form Ho9.out
                      subst hu9
                      obtain ⟨b0,off,rfl,hq0,hlt0,hc⟩:=HIs.out.at (by rw [hml];omega)
                      have hcx:=(hc q _ (last_at kind (L ++ A j) q hla)).2.1
                      rw [getLastD_app,Hp.out,Hpj.out] at hcx
                      have hcp:wr.cell? ⟨b0,off + q * 3 + 1,none⟩ = some (.int .i64 pj):=hcx
                      obtain ⟨b1,o1,he1,hq1,hlt1,hc1⟩:=(numsU_nat Hou9.out).at (by rw [show (ints G).length = G.length from List.length_map _];omega)
                      have hcu:=hc1 j ((G[j]:Nat):Int) (by rw [show ints G = G.map (fun (q:Nat)=>(q:Int)) from rfl,List.getElem?_map,List.getElem?_eq_getElem hjG];rfl)
                      subst he1
                      have HAj:=Lib.hid (HAs.out j hjG)
                      rw [Hpj.out] at HAj
                      have hl9:((L ++ A j).map (numI kind)).length ≤ 20000:=by rw [hml];omega
                      have HOl:=Lib.hid (show wr.ownsRow w.heap.size 41 3 (.slice (some ⟨b0,off,none⟩) (q + 1) cap9) ((L ++ A j).map (numI kind)).length (((L ++ A j).map (numI kind)).flatMap valCells) by rw [hml];exact Ho9.out)
                      have hi3:=i64_add3 pj x G[j]
                      have hqw:wrap64 (q:Int) = (q:Int):=by unfold wrap64;omega
                      generalize G[j] = g at *
                      generalize hav:a64 pj (x + (g:Int)) = av at *
                      have Hhq:=Lib.hid hq;have Hml:=Lib.hid hml
                      clear hc hc1 hcx hq0 hq1 hq hml hla
                      go_wp2_with (at_builtin;refine wpList_pushVal rfl _ _ rfl w.heap.size _ ((L ++ A j).map (numI kind)) rfl HOl.out _ _ rfl rfl hl9 hbs9 (numI kind av) _ ?_ ?_;(focus (first | rfl | exact num_cells' hi3));intro v' w11 hown' hgrow' hb';have HO11:=Lib.hid hown';have HU11:=Lib.hid (own_past HOl.out hgrow' Hou9.out (by decide));have HB11:=Lib.hid (Hb9.out.trans hb');clear hown' hgrow' hb')
                      go_roundw
                      case rel =>
                        have hO12:=HO11.out
                        rw [show (L ++ A j).map (numI kind) ++ [numI kind av] = (L ++ A (j + 1)).map (numI kind) by rw [HAj.out];simp,show ((L ++ A (j + 1)).map (numI kind)).length = L.length + (j + 1) by rw [List.length_map,List.length_append,HAl.out (j + 1) (by omega)]] at hO12
                        exact ⟨j + 1,av,by omega,by go_num,by rw [HAj.out];simp,hO12,HU11.out,HB11.out⟩
                      case measure=>simp [intOf];omega
                    · have hjk2:lf = j:=by omega
                      subst hjk2
                      obtain ⟨ad9,cap9,hu9⟩:=bslice_form Ho9.out
                      subst hu9
                      have HAlk:=Lib.hid (HAl.out lf (Nat.le_refl _))
                      clear hjk
                      go_wp2_with fail
                      go_roundw
                      case rel =>
                        have hla:(L ++ A lf).length = L.length + lf:=by rw [List.length_append,HAlk.out]
                        refine ⟨L ++ A lf,r1.extract (1 + KB) r1.size,by omega,by first | rfl | simp,by simp;omega,by rw [hla];exact Ho9.out,Hb9.out,.inr ⟨by omega,?_,?_⟩⟩
                        · rw [getLastD_app,Hp.out];exact HAr.out lf
                        · rw [Hinv.out,HDP.out,Option.map_map,Hr3.out,getLastD_app,Hp.out,hla,show n - (L.length + lf) = lf - lf by have:=Hlf.out;omega]
                          congr 1
                          funext y
                          simp
                      case measure=>simp [lenOf];omega
    · obtain rfl:L.length = n:=by omega
      have hA:dAll s.data.toList L.length = some L:=by
        rcases hinv with ⟨rfl,_⟩ | ⟨_,_,hi⟩
        · rfl
        · rw [hi,Nat.sub_self,dParse_zero];simp
      have HA:=Lib.hid hA
      have hin:=(dAll_inv _ _ _ hA).2
      have HO:=Lib.hid (show ∀ z ∈ L.map (numI kind),z.Ok from fun z hz=>by
        obtain ⟨y,hy,rfl⟩:=List.mem_map.1 hz
        exact numI_ok kind y Hk.out (hin y hy).1 (hin y hy).2)
      have HIs:=Lib.hid (IsVals.of_own (l:=L.map (numI kind)) (B:=w.heap.size) (e:=41) (by rw [HmL.out];exact hown))
      have hnI:=numsI_numI kind L
      obtain ⟨adu,capu,rfl⟩:=bslice_form hown
      have hml:(L.map (numI kind)).length = L.length:=List.length_map _
      obtain ⟨lv,hlv⟩:∃ lv,lv = L.map (numI kind):=⟨_,rfl⟩
      rw [← hlv] at HO HIs hnI hml
      have Hlv:=Lib.hid hlv;have HnI:=Lib.hid hnI
      have h1k:1 ≤ kind:=by have:=Hk.out;omega
      have h5k:kind ≤ 5:=by have:=Hk.out;omega
      obtain ⟨wo,hwo⟩:∃ wo:World,wo = wr:=⟨_,rfl⟩
      subst hwo
      have hml2:lv.length ≤ 20000:=by omega
      have Hml:=Lib.hid hml
      clear hA hin hinv hown hlv hnI hrl hml
      go_wp2_with fail
      go_loopw [18] (fun i w9=>∃ j:Nat,j ≤ L.length ∧ i = .int .i64 (j:Nat) ∧ Below wo.heap.size wo w9 ∧ ∀ z ∈ lv.take j,OkP kind z) (fun i _=>L.length - (intOf i).toNat)
      case atStart=>exact ⟨0,Nat.zero_le _,rfl,Below.refl _ _,by simp⟩
      case round =>
        obtain ⟨j,hj,rfl,hb9,hall⟩:=hrel
        have Hb9:=Lib.hid hb9;have Hall:=Lib.hid hall
        have Hbw:=Lib.hid (Hb.out.trans (hb9.mono hbs))
        clear hb9 hall
        by_cases hjl:j < L.length
        · have hjI:(j:Int) < (L.length:Int):=by omega
          have hjv:j < lv.length:=by rw [Hml.out];exact hjl
          obtain ⟨b0,off,rfl,hq0,hlt0,hc⟩:=(HIs.out.below Hb9.out (Nat.le_refl _)).at (by omega)
          have hcx:=hc j lv[j] (List.getElem?_eq_getElem hjv)
          have hox:=HO.out _ (List.getElem_mem hjv)
          have hmem:=List.getElem_mem hjv
          have htk:lv.take (j + 1) = lv.take j ++ [lv[j]]:=List.take_succ_eq_append_getElem hjv
          generalize lv[j] = z at *
          have Hcx:=Lib.hid hcx.cells;have Htk:=Lib.hid htk
          have hvs:(valA z).size = 3:=rfl
          clear hc hcx htk hq0
          by_cases hokz:OkP kind z
          · have HC:=Lib.hid (fun w1=>isValue_yes kind z hox w1 hokz h1k h5k)
            have Hokz:=Lib.hid hokz
            clear hokz
            go_wp2_with (refine wpList_load_cells rfl 41 _ rfl b0 (off + j * 3) rfl (valA z) _ Hcx.out Tryz.underlying41 rfl hszv ?_)
            refine (HC.out _).mono ?_;rintro e w5 ⟨rfl,hb5⟩
            have Hb5:=Lib.hid (Hb9.out.trans (hb5.mono Hb9.out.size))
            clear hb5
            go_wp2_with fail
            go_roundw
            case rel =>
              refine ⟨j + 1,by omega,by go_num,Hb5.out,?_⟩
              intro z' hz'
              rw [Htk.out] at hz'
              rcases List.mem_append.1 hz' with h | h
              · exact Hall.out z' h
              · obtain rfl:=List.mem_singleton.1 h;exact Hokz.out
            case measure=>simp [intOf];omega
          · have HC:=Lib.hid (fun w1=>isValue_no kind z hox w1 hokz h1k h5k)
            have HN:=Lib.hid (show readD kind s.data.toList L.length = none from readD_no Hk.out hn HA.out (.inl (fun hv=>hokz ((valsErr_nil hv).2.2.2 z (by rw [← Hlv.out];exact hmem)))))
            clear hokz
            go_wp2_with (refine wpList_load_cells rfl 41 _ rfl b0 (off + j * 3) rfl (valA z) _ Hcx.out Tryz.underlying41 rfl hszv ?_)
            refine (HC.out _).mono ?_;rintro e w5 ⟨rfl,hb5⟩
            have Hb5:=Lib.hid (Hbw.out.trans (hb5.mono Hbw.out.size))
            clear hb5
            go_wp2_with fail
            go_ret2
            exact ⟨RfRet.bad HN.out rfl,Hb5.out⟩
        · have hjl2:j = L.length:=by omega
          have hvn:valsErr kind (L.map (numI kind)) = .nil:=by
            rw [← Hlv.out]
            unfold valsErr
            rw [if_neg (by omega),if_neg (by omega),(badAt_none kind lv 0).2 (fun z hz=>Hall.out z (by rw [List.take_of_length_le (by rw [Hml.out];omega)];exact hz))]
          have HD:=Lib.hid (fun v=>fun (h:IsVals wr v lv)=>deltaOf_any v lv wr h hml2 HO.out)
          rw [HnI.out] at HD
          have HI9:=Lib.hid (HIs.out.below Hb9.out (Nat.le_refl _))
          have Ho9:=Lib.hid (bown_below Hown.out Hb9.out)
          subst hjl2
          by_cases he:deltaB L = s.data.toList
          · have HN:=Lib.hid (readD_yes HA.out hvn he)
            have hq:(deltaB L == s.toList) = true:=by rw [ByteArray.toList_eq,beq_iff_eq];exact he
            clear he hvn
            go_wp2_with fail
            refine (HD.out _ HI9.out).mono ?_;rintro e w5 ⟨rfl,hb5⟩
            have Ho5:=Lib.hid (bown_below Ho9.out hb5)
            have Hb5:=Lib.hid (Hbw.out.trans (hb5.mono Hbw.out.size))
            clear hb5
            go_wp2_with fail
            go_ret2
            exact ⟨RfRet.good HN.out (by first | rfl | simp [hq]) (by rw [List.length_map];exact Ho5.out),Hb5.out⟩
          · have HN:=Lib.hid (readD_no Hk.out hn HA.out (.inr he))
            have hq:(deltaB L == s.toList) = false:=by rw [ByteArray.toList_eq,beq_eq_false_iff_ne];exact he
            clear he hvn
            go_wp2_with fail
            refine (HD.out _ HI9.out).mono ?_;rintro e w5 ⟨rfl,hb5⟩
            have Hb5:=Lib.hid (Hbw.out.trans (hb5.mono Hbw.out.size))
            clear hb5
            go_wp2_with fail
            go_ret2
            exact ⟨RfRet.bad HN.out (by first | rfl | simp [hq]),Hb5.out⟩
end Go.Proofs.YtapiabmmfmfaeaaGreatDoor
