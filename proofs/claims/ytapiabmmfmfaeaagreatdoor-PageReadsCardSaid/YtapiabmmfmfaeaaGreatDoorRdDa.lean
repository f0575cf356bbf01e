/- The walk of enc.ReadDelta, whole, at numbers of kind 2. -/
import Derived.Test.YtapiabmmfmfaeaaGreatDoorMRd
namespace Go.Proofs.YtapiabmmfmfaeaaGreatDoor
set_option maxHeartbeats 8000000
set_option linter.unusedVariables false
open Go Go.RowKit Go.ChangeShapes
set_option maxRecDepth 100000 in
theorem readDelta_pos2 (kind:Int) (hk:kind = 2) (s:ByteArray) (n:Nat) (T:TypeId) (x:Value) (w:World) (adr:Nat → Addr) (hE:ErrsAt w adr [2,4]) (h0:0 < n) (hn:n ≤ 20000) (hs:s.size ≤ 200000) (hev:w.cell? ⟨1,0,none⟩ = some (.iface T x)) :
    Calls Tryz.prog 49 #[.int .i64 kind,.string s,.int .i64 (n:Nat)] w fun e w'=>RdRet (.iface T x) w.heap.size (readD kind s.data.toList n) e w' ∧ Below w.heap.size w w':=by
  have hK2:kind = 2 ∨ kind = 3:=by omega
  have hsz:(1:Nat) < w.heap.size:=block_lt_of_cell hev
  have Hsz:=Lib.hid hsz;have Hev:=Lib.hid hev;have HE:=Lib.hid hE;have HK2:=Lib.hid hK2
  have HK:=Lib.hid (known_ok kind n w (by omega) (by omega) (by omega) (by omega))
  have hNA:=NextAt.fresh s w
  have hbw:Below w.heap.size w ((w.alloc (.cells #[.string s] 9)).alloc (.cells #[.int .i64 0] 2)):=((Below.refl _ _).alloc (Nat.le_refl _) _).alloc (by simp) _
  have hs2:w.heap.size + 2 ≤ ((w.alloc (.cells #[.string s] 9)).alloc (.cells #[.int .i64 0] 2)).heap.size:=by simp
  have HNA:=Lib.hid hNA;have Hbw:=Lib.hid hbw;have Hs2:=Lib.hid hs2
  have h0I:(0:Int) < (n:Int):=by omega
  have hsm:s.size ≤ maxLen:=by unfold maxLen;omega
  obtain ⟨wb,hwb⟩:∃ wb:World,wb = w:=⟨_,rfl⟩
  clear hsz hev hE hNA hbw hs2 hK2
  subst hk
  go_enter Tryz.func49,Tryz.ntmps49
  go_wp2_with fail
  refine HK.out.mono ?_;rintro e w1 ⟨rfl,hw1⟩
  subst hw1
  go_wp2_with fail
  generalize hW:(w1.alloc (.cells #[.string s] 9)).alloc (.cells #[.int .i64 0] 2) = W2 at *
  clear hW
  have hevW:W2.cell? ⟨1,0,none⟩ = some (.iface T x):=(Hbw.out.cell (p:=⟨1,0,none⟩) Hsz.out).trans Hev.out
  have HevW:=Lib.hid hevW
  clear hevW
  cases hV:readV s.data.toList with
  | none=>as_aux_lemma =>
    have HC:=Lib.hid (next_none w1.heap.size (w1.heap.size + 1) s 0 T x W2 HNA.out hsm HevW.out hV)
    have HN:=Lib.hid (show readD 2 s.data.toList n = none from readD_none (by unfold dAll;rw [if_neg (by omega),hV]))
    clear hV
    refine HC.out.mono ?_;rintro e w2 ⟨rfl,hb2⟩
    have hev2:=(hb2.cell (p:=⟨1,0,none⟩) (block_lt_of_cell HevW.out)).trans HevW.out
    have Hb2:=Lib.hid (Hbw.out.trans (hb2.mono Hbw.out.size))
    clear hb2
    go_wp2_with fail
    go_quiet (fail)
    go_wp2_with fail
    go_ret2
    exact ⟨RdRet.bad HN.out,below_drewN Hb2.out _⟩
  | some y =>
    obtain ⟨x0,k0⟩:=y
    have HC:=Lib.hid (next_some w1.heap.size w1.heap.size (w1.heap.size + 1) s 0 T x W2 (Nat.le_refl _) (Nat.le_succ _) Hbw.out.size HNA.out hsm HevW.out hV)
    have hk0:=readV_in hV
    have hsl:s.data.toList.length = s.size:=by simp
    rw [hsl] at hk0
    obtain ⟨hx0,hx1,_,hk0'⟩:=hk0
    have HD:=Lib.hid (show dAll s.data.toList n = (dParse x0 (n - 1) (s.data.toList.drop k0)).map ([x0] ++ ·) by unfold dAll;rw [if_neg (by omega),hV];rfl)
    clear hV hsl
    refine HC.out.mono ?_;rintro e w2 ⟨rfl,hN2,_,hb2⟩
    have HN2:=Lib.hid hN2;have Hb2:=Lib.hid (Hbw.out.trans hb2)
    have hs2:w1.heap.size + 2 ≤ w2.heap.size:=Nat.le_trans Hs2.out hb2.size
    have hcn:=hN2.cn
    have hbs2:w1.heap.size ≤ w2.heap.size:=Nat.le_trans (Nat.le_add_right _ _) hs2
    clear hN2 hb2
    go_wp2_with (at_builtin;refine wpList_pushVal rfl _ _ rfl w1.heap.size _ [] rfl (World.ownsRow_nil _ _ _ _) _ _ rfl rfl (by decide) hbs2 (numI 2 x0) _ rfl ?_;intro v' w3 hown' hgrow' hb';have HO3:=Lib.hid hown';have HN3:=Lib.hid (HN2.out.push hgrow' (World.ownsRow_nil _ w1.heap.size 41 3));have Hb3:=Lib.hid (Hb2.out.trans hb');have hs3:=Nat.le_trans hs2 hb'.size;clear hown' hgrow' hb')
    go_loopw [9] (fun u wr=>∃ (L:List Int) (r:ByteArray) (now p:Int),0 < L.length ∧ L.length ≤ n ∧ r.size ≤ s.size ∧ wr.ownsRow w1.heap.size 41 3 u L.length ((L.map (numI 2)).flatMap valCells) ∧ NextAt w1.heap.size (w1.heap.size + 1) r now wr ∧ Below w1.heap.size w1 wr ∧ w1.heap.size + 2 ≤ wr.heap.size ∧ L.getLastD 0 = p ∧ (-9223372036854775808 ≤ p ∧ p < 9223372036854775808) ∧ dAll s.data.toList n = (dParse p (n - L.length) r.data.toList).map (L ++ ·)) (fun u _=>n - lenOf u)
    case atStart=>exact ⟨[x0],s.extract k0 s.size,x0,x0,Nat.zero_lt_one,h0,by simp,HO3.out,HN3.out,Hb3.out,hs3,rfl,⟨hx0,hx1⟩,by rw [HD.out,bext_list];rfl⟩
    case round =>
      obtain ⟨L,r,now,p,hL0,hLn,hrs,hown,hNx,hb,hws,hlp,⟨hp0,hp1⟩,hinv⟩:=hrel
      have Hown:=Lib.hid hown;have HNx:=Lib.hid hNx;have Hb:=Lib.hid hb;have Hinv:=Lib.hid hinv;have Hlp:=Lib.hid hlp
      have hevr:=(hb.cell (p:=⟨1,0,none⟩) Hsz.out).trans Hev.out
      have hrm:r.size ≤ maxLen:=by unfold maxLen;omega
      have HmL:=Lib.hid (show (L.map (numI 2)).length = L.length from List.length_map _)
      have HIs:=Lib.hid (IsVals.of_own (l:=L.map (numI 2)) (B:=w1.heap.size) (e:=41) (by rw [HmL.out];exact hown))
      obtain ⟨adu,capu,rfl⟩:=bslice_form hown
      clear hown hNx hb hinv hlp
      by_cases hlt:L.length < n
      · have hlt':(L.length:Int) < (n:Int):=by omega
        obtain ⟨q,hq⟩:∃ q,L.length = q + 1:=⟨L.length - 1,by omega⟩
        obtain ⟨b0,off,rfl,_,hlt0,hc⟩:=HIs.out.at (by rw [HmL.out];omega)
        have hcx:=(hc q _ (last_at 2 L q hq)).2.1
        rw [Hlp.out] at hcx
        have hcp:wr.cell? ⟨b0,off + q * 3 + 1,none⟩ = some (.int .i64 p):=hcx
        have HC:=Lib.hid hcp
        clear hc hcx
        obtain ⟨lf,hlf⟩:∃ lf,n - L.length = lf:=⟨_,rfl⟩
        have hlf0:0 < lf:=by omega
        have hlfI:(n:Int) - (L.length:Int) = (lf:Int):=by omega
        have Hlf:=Lib.hid hlf
        rw [hlf] at Hinv
        clear hlf
        cases hV:readV r.data.toList with
        | none=>as_aux_lemma =>
          have HX:=Lib.hid (next_none w1.heap.size (w1.heap.size + 1) r now T x wr HNx.out hrm hevr hV)
          have HN:=Lib.hid (show readD 2 s.data.toList n = none from readD_none (by rw [Hinv.out,dParse_none p lf _ hlf0 hV];rfl))
          clear hV
          go_wp2_with fail
          refine HX.out.mono ?_;rintro e w2 ⟨rfl,hb2⟩
          have hev2:=(hb2.cell (p:=⟨1,0,none⟩) (block_lt_of_cell hevr)).trans hevr
          have Hb2:=Lib.hid (Hb.out.trans (hb2.mono Hb.out.size))
          clear hb2
          go_wp2_with fail
          go_quiet (fail)
          go_wp2_with fail
          go_ret2
          exact ⟨RdRet.bad HN.out,below_drewN Hb2.out _⟩
        | some y =>
          obtain ⟨m,k⟩:=y
          have HX:=Lib.hid (next_some w1.heap.size w1.heap.size (w1.heap.size + 1) r now T x wr (Nat.le_refl _) (Nat.le_succ _) Hb.out.size HNx.out hrm hevr hV)
          have hk:=readV_in hV
          have hsl:r.data.toList.length = r.size:=by simp
          rw [hsl] at hk
          obtain ⟨hm0,hm1,_,hk'⟩:=hk
          have he:=bext_list r k
          have hr1s:(r.extract k r.size).size = r.size - k:=by simp
          have hr1le:(r.extract k r.size).size ≤ s.size:=by omega
          generalize r.extract k r.size = r1 at *
          have HV:=Lib.hid hV
          clear hV hsl
          cases hd:r.data.toList.drop k with
          | nil=>as_aux_lemma =>
            have HN:=Lib.hid (show readD 2 s.data.toList n = none from readD_none (by rw [Hinv.out,dParse_end p lf _ hlf0 HV.out hd];rfl))
            rw [hd] at he
            have h10:r1.size = 0:=by rw [← size_data,he];rfl
            obtain rfl:=empty_list h10
            clear hd he h10 hr1s
            go_wp2_with fail
            refine HX.out.mono ?_;rintro e w2 ⟨rfl,hN2,_,hb2⟩
            have hev2:=(Hb.out.trans hb2).cell (p:=⟨1,0,none⟩) Hsz.out |>.trans Hev.out
            have Hb2:=Lib.hid (Hb.out.trans hb2)
            have hcr:=hN2.cr
            clear hb2 hN2
            go_wp2_with fail
            go_quiet (fail)
            go_wp2_with fail
            go_ret2
            exact ⟨RdRet.bad HN.out,below_drewN Hb2.out _⟩
          | cons c rest =>
            clear hr1s
            rw [hd] at he
            have h1pos:0 < r1.size:=by rw [← size_data,he];simp
            have hc0:r1[0] = c:=by
              have h:=bdata_get h1pos
              rw [he] at h
              simpa using h.symm
            have hre:(r1.extract 1 r1.size).data.toList = rest:=by rw [bext_list,he];rfl
            have hrl:rest.length + 1 = r1.size:=by rw [← size_data,he];rfl
            have hne1:¬ r1.toList = []:=by rw [ByteArray.toList_eq,he];simp
            have hc8:=c.toNat_lt
            have HD:=Lib.hid hd
            clear hd he
            by_cases hc64:64 < c.toNat
            · have HN:=Lib.hid (show readD 2 s.data.toList n = none from readD_none (by rw [Hinv.out,dParse_bad p lf _ hlf0 HV.out HD.out (.inl hc64)];rfl))
              have hcI:(64:Int) < (c.toNat:Int):=by omega
              go_wp2_with fail
              refine HX.out.mono ?_;rintro e w2 ⟨rfl,hN2,_,hb2⟩
              have hev2:=(Hb.out.trans hb2).cell (p:=⟨1,0,none⟩) Hsz.out |>.trans Hev.out
              have Hb2:=Lib.hid (Hb.out.trans hb2)
              have hcr:=hN2.cr
              clear hb2 hN2
              go_wp2_with fail
              go_quiet (fail)
              go_wp2_with fail
              go_ret2
              exact ⟨RdRet.bad HN.out,below_drewN Hb2.out _⟩
            · have hcI:(c.toNat:Int) ≤ 64:=by omega
              have hie1:r1.toList.isEmpty = false:=by rw [empty_beq',decide_eq_false_iff_not];omega
              obtain ⟨kk,hkk⟩:∃ kk,min 32 lf = kk:=⟨_,rfl⟩
              have hmin:min (32:Int) ((n:Int) - (L.length:Int)) = (kk:Int):=by omega
              have hminq:min (32:Int) ((n:Int) - ((q:Int) + 1)) = (kk:Int):=by omega
              have hkk32:kk ≤ 32:=by omega
              have hkk0:0 < kk:=by omega
              have hkl:L.length + kk ≤ n:=by omega
              obtain ⟨KB,hKB⟩:∃ KB,kB kk c.toNat = KB:=⟨_,rfl⟩
              have hKBI:((kk:Int) * (c.toNat:Int) + 7) / 8 = (KB:Int):=by rw [← hKB];unfold kB;rw [← Int.natCast_mul];omega
              have hkwle:kk * c.toNat ≤ 32 * 64:=Nat.mul_le_mul hkk32 (by omega)
              have hkwI:IntKind.i64.wrap ((kk:Int) * (c.toNat:Int)) = (kk:Int) * (c.toNat:Int):=by rw [← Int.natCast_mul];exact wrap_small _ (by omega) (by omega)
              have Hkk:=Lib.hid hkk;have HKB:=Lib.hid hKB
              by_cases hfew:rest.length < KB
              · have HN:=Lib.hid (show readD 2 s.data.toList n = none from readD_none (by rw [Hinv.out,dParse_bad p lf _ hlf0 HV.out HD.out (.inr (by rw [Hkk.out,HKB.out];exact hfew))];rfl))
                clear hkk hKB
                go_wp2_with fail
                refine HX.out.mono ?_;rintro e w2 ⟨rfl,hN2,_,hb2⟩
                have Hb2:=Lib.hid (Hb.out.trans hb2);have HN2:=Lib.hid hN2
                have hcr:=hN2.cr;have hcn:=hN2.cn;have hfr:=hN2.fr
                clear hb2 hN2
                go_wp2_with fail
                go_quiet (fail)
                go_wp2_with fail
                have hb3:Below w1.heap.size w1 ((w2.drewN nq).setCell ⟨w1.heap.size,0,none⟩ (.string (r1.extract 1 r1.size))):=(below_drewN Hb2.out nq).setCell (p:=⟨w1.heap.size,0,none⟩) (Nat.le_refl _) _
                have hev3:=(hb3.cell (p:=⟨1,0,none⟩) Hsz.out).trans Hev.out
                have Hb3:=Lib.hid hb3
                clear hb3
                generalize (w2.drewN nq).setCell ⟨w1.heap.size,0,none⟩ (.string (r1.extract 1 r1.size)) = w3 at *
                go_quiet (fail)
                go_wp2_with fail
                go_ret2
                exact ⟨RdRet.bad HN.out,below_drewN Hb3.out _⟩
              · have hmany:KB ≤ rest.length:=by omega
                have HDP:=Lib.hid (dParse_step p lf _ hlf0 HV.out HD.out (by rw [Hkk.out,HKB.out];omega))
                rw [Hkk.out,HKB.out] at HDP
                obtain ⟨A,hA⟩:∃ A:Nat → List Int,∀ j,A j = adds m p (getAll (unlittle rest) c.toNat j):=⟨_,fun _=>rfl⟩
                obtain ⟨G,hG⟩:∃ G:Nat → Nat,∀ j,G j = unlittle rest / 2 ^ (j * c.toNat) % 2 ^ c.toNat:=⟨_,fun _=>rfl⟩
                rw [← hA kk] at HDP
                have HA0:=Lib.hid (show A 0 = [] by rw [hA];rfl)
                have HAs:=Lib.hid (show ∀ j,A (j + 1) = A j ++ [a64 ((A j).getLastD p) (m + (G j:Int))] from fun j=>by rw [hA,hA,hG,getAll_succ,adds_snoc])
                have HAl:=Lib.hid (show ∀ j,(A j).length = j from fun j=>by rw [hA,adds_len,getAll_len])
                have HAr:=Lib.hid (show ∀ j,-9223372036854775808 ≤ (A j).getLastD p ∧ (A j).getLastD p < 9223372036854775808 from fun j=>by rw [hA];exact adds_lastin m p ⟨hp0,hp1⟩ _)
                have h8k:kk * c.toNat ≤ 8 * KB:=by rw [← hKB];unfold kB;omega
                have HG:=Lib.hid (show ∀ j,j < kk → ∀ w9,Calls Tryz.prog 76 #[.string (r1.extract 1 r1.size),.int .i64 ((j:Int) * (c.toNat:Int)),.int .i64 (c.toNat:Int)] w9 fun e w'=>e = .returned (.int .u64 (G j:Nat)) ∧ w' = w9 from fun j hj w9=>by
                  have h:=get_any64 (r1.extract 1 r1.size) (j * c.toNat) c.toNat w9 (by omega) (by
                    have h1:(j + 1) * c.toNat ≤ kk * c.toNat:=Nat.mul_le_mul_right _ hj
                    rw [Nat.add_one_mul] at h1
                    rw [← size_data,hre];omega) (by rw [← size_data,hre];omega)
                  rw [hre,← hG j,Int.natCast_mul] at h
                  exact h)
                have HWj:=Lib.hid (show ∀ j,j < kk → IntKind.i64.wrap ((j:Int) * (c.toNat:Int)) = (j:Int) * (c.toNat:Int) from fun j hj=>by
                  have h1:j * c.toNat ≤ kk * c.toNat:=Nat.mul_le_mul_right _ (by omega)
                  rw [← Int.natCast_mul];exact wrap_small _ (by omega) (by omega))
                have hr2s:(r1.extract 1 r1.size).size = rest.length:=by rw [← size_data,hre]
                have HRE:=Lib.hid hre
                have hfd:decide (rest.length < KB) = false:=by rw [decide_eq_false_iff_not];exact hfew
                clear hkk hKB hA hG hre
                go_wp2_with fail
                refine HX.out.mono ?_;rintro e w2 ⟨rfl,hN2,hkp2,hb2⟩
                have Hb2:=Lib.hid (Hb.out.trans hb2);have HN2:=Lib.hid hN2
                have Ho2:=Lib.hid (hkp2 _ _ _ _ Hown.out)
                have hws2:w1.heap.size + 2 ≤ w2.heap.size:=Nat.le_trans hws hb2.size
                have hcr:=hN2.cr;have hcn:=hN2.cn;have hfr:=hN2.fr
                clear hb2 hN2 hkp2
                go_wp2_with fail
                go_quiet (fail)
                go_wp2_with fail
                have hb3:Below w1.heap.size w1 ((w2.drewN nq).setCell ⟨w1.heap.size,0,none⟩ (.string (r1.extract 1 r1.size))):=(below_drewN Hb2.out nq).setCell (p:=⟨w1.heap.size,0,none⟩) (Nat.le_refl _) _
                have hN3:=(HN2.out.drewN nq).setR (r1.extract 1 r1.size)
                have hO3:((w2.drewN nq).setCell ⟨w1.heap.size,0,none⟩ (.string (r1.extract 1 r1.size))).ownsRow w1.heap.size 41 3 _ L.length ((L.map (numI 2)).flatMap valCells):=(HN2.out.drewN nq).keepR (r1.extract 1 r1.size) _ _ _ _ (VKeep.below (below_drewN (Below.refl w2.heap.size w2) nq) _ _ _ _ Ho2.out)
                have hws3:w1.heap.size + 2 ≤ ((w2.drewN nq).setCell ⟨w1.heap.size,0,none⟩ (.string (r1.extract 1 r1.size))).heap.size:=Nat.le_trans hws2 (((below_drewN (Below.refl w1.heap.size w2) nq).setCell (p:=⟨w1.heap.size,0,none⟩) (Nat.le_refl _) _).size)
                have Hb3:=Lib.hid hb3;have HN3:=Lib.hid hN3;have HO3:=Lib.hid hO3
                clear hb3 hN3 hO3
                generalize (w2.drewN nq).setCell ⟨w1.heap.size,0,none⟩ (.string (r1.extract 1 r1.size)) = w3 at *
                generalize r1.extract 1 r1.size = r2 at *
                have HKBI:=Lib.hid hKBI;have Hmany:=Lib.hid hmany;have Hkwle:=Lib.hid hkwle;have Hr2s:=Lib.hid hr2s;have Hrl:=Lib.hid hrl
                clear hKBI hmany hkwle hr2s hrl hfew hfd
                go_loopw [9,13,94] (fun u la i w9=>∃ (j:Nat) (pj:Int),j ≤ kk ∧ i = .int .i64 (j:Nat) ∧ la = .int .u64 (IntKind.u64.wrap pj) ∧ (A j).getLastD p = pj ∧ w9.ownsRow w1.heap.size 41 3 u ((L ++ A j).map (numI 2)).length (((L ++ A j).map (numI 2)).flatMap valCells) ∧ NextAt w1.heap.size (w1.heap.size + 1) r2 m w9 ∧ Below w1.heap.size w1 w9 ∧ w1.heap.size + 2 ≤ w9.heap.size) (fun _ _ i _=>kk - (intOf i).toNat)
                case atStart=>exact ⟨0,p,Nat.zero_le _,rfl,rfl,by rw [HA0.out];rfl,by rw [HA0.out,List.append_nil,HmL.out,← hq];exact HO3.out,HN3.out,Hb3.out,hws3⟩
                case round =>
                  obtain ⟨j,pj,hj,rfl,rfl,hpj,hown9,hN9,hb9,hws9⟩:=hrel
                  have Ho9:=Lib.hid hown9;have HN9:=Lib.hid hN9;have Hb9:=Lib.hid hb9;have Hpj:=Lib.hid hpj
                  have hc9:=hN9.cr;have hf9:=hN9.fr
                  clear hown9 hN9 hb9 hpj
                  by_cases hjk:j < kk
                  · have hjI:(j:Int) < (kk:Int):=by omega
                    have HGj:=Lib.hid (HG.out j hjk)
                    have hwj:=HWj.out j hjk
                    have HAj:=Lib.hid (HAs.out j)
                    rw [Hpj.out] at HAj
                    have hua:=u64_add pj m (G j)
                    have han:=a64_in pj (m + (G j:Int))
                    have hub:=wrap64_u64 han.1 han.2
                    have hl9:((L ++ A j).map (numI 2)).length ≤ 20000:=by rw [List.length_map,List.length_append,HAl.out];omega
                    have hbs9:w1.heap.size ≤ wr.heap.size:=Nat.le_trans (Nat.le_add_right _ _) hws9
                    generalize G j = g at *
                    generalize a64 pj (m + (g:Int)) = av at *
                    clear han
                    go_wp2_with fail
                    refine (HGj.out _).mono ?_;rintro e w10 ⟨rfl,rfl⟩
                    go_wp2_with (at_builtin;refine wpList_pushVal rfl _ _ rfl w1.heap.size _ ((L ++ A j).map (numI 2)) rfl Ho9.out _ _ rfl rfl hl9 hbs9 (numI 2 av) _ ?_ ?_;(focus (first | rfl | (refine num_cells' ?_;assumption) | exact num_cells' hub));intro v' w11 hown' hgrow' hb';have HO11:=Lib.hid hown';have HN11:=Lib.hid (HN9.out.push hgrow' Ho9.out);have HB11:=Lib.hid (Hb9.out.trans hb');have hws11:=Nat.le_trans hws9 hb'.size;clear hown' hgrow' hb')
                    go_roundw
                    case rel =>
                      have hO12:=HO11.out
                      rw [show (L ++ A j).map (numI 2) ++ [numI 2 av] = (L ++ A (j + 1)).map (numI 2) by rw [HAj.out];simp] at hO12
                      exact ⟨j + 1,av,by omega,by go_num,by (first | rfl | rw [hua]),by rw [HAj.out];simp,hO12,HN11.out,HB11.out,hws11⟩
                    case measure=>simp [intOf];omega
                  · obtain rfl:j = kk:=by omega
                    have hKr:(KB:Int) ≤ (r2.size:Int):=by have:=Hmany.out;have:=Hr2s.out;omega
                    have hr2le:r2.size ≤ s.size:=by have:=Hr2s.out;have:=Hrl.out;omega
                    have hKBI:=HKBI.out
                    have hmL2:((L ++ A j).map (numI 2)).length = L.length + j:=by rw [List.length_map,List.length_append,HAl.out]
                    rw [hmL2] at Ho9
                    obtain ⟨ad9,cap9,hu9⟩:=bslice_form Ho9.out
                    subst hu9
                    have hb3':Below w1.heap.size w1 (wr.setCell ⟨w1.heap.size,0,none⟩ (.string (r2.extract KB r2.size))):=Hb9.out.setCell (p:=⟨w1.heap.size,0,none⟩) (Nat.le_refl _) _
                    have hN3':=HN9.out.setR (r2.extract KB r2.size)
                    have hO3':=HN9.out.keepR (r2.extract KB r2.size) _ _ _ _ Ho9.out
                    have hws':w1.heap.size + 2 ≤ (wr.setCell ⟨w1.heap.size,0,none⟩ (.string (r2.extract KB r2.size))).heap.size:=Nat.le_trans hws9 (((Below.refl w1.heap.size wr).setCell (p:=⟨w1.heap.size,0,none⟩) (Nat.le_refl _) (.string (r2.extract KB r2.size))).size)
                    have HB12:=Lib.hid hb3';have HN12:=Lib.hid hN3';have HO12:=Lib.hid hO3';have Hws12:=Lib.hid hws'
                    clear hb3' hN3' hO3' hws'
                    go_wp2_with fail
                    go_roundw
                    case rel =>
                      have hla:(L ++ A j).length = L.length + j:=by rw [List.length_append,HAl.out]
                      refine ⟨L ++ A j,r2.extract KB r2.size,m,pj,by omega,by omega,by simp;omega,by rw [hla];exact HO12.out,HN12.out,HB12.out,Hws12.out,?_,Hpj.out ▸ HAr.out j,?_⟩
                      · rw [getLastD_app,Hlp.out];exact Hpj.out
                      · rw [Hinv.out,HDP.out,Hpj.out,Option.map_map,bext_list,HRE.out,hla,show n - (L.length + j) = lf - j by have:=Hlf.out;omega]
                        congr 1
                        funext y
                        simp
                    case measure=>simp [lenOf];omega
      · obtain rfl:L.length = n:=by omega
        rw [Nat.sub_self,dParse_zero] at Hinv
        have HA:=Lib.hid (show dAll s.data.toList L.length = some L by rw [Hinv.out];simp)
        have hin:=(dAll_inv _ _ _ HA.out).2
        have hO:∀ z ∈ L.map (numI 2),z.Ok:=fun z hz=>by
          obtain ⟨y,hy,rfl⟩:=List.mem_map.1 hz
          exact numI_ok 2 y (.inl rfl) (hin y hy).1 (hin y hy).2
        have HO:=Lib.hid hO
        have hEr:=HE.out.below (w':=wr) (by exact Hb.out)
        have hnI:=numsI_numI 2 L
        by_cases hv:valsErr 2 (L.map (numI 2)) = .nil
        · have HC:=Lib.hid (delta_ok 2 (.inl rfl) _ (L.map (numI 2)) wr HIs.out HO.out hv)
          rw [hnI] at HC
          by_cases he:deltaB L = s.data.toList
          · have HR:=Lib.hid (readD_yes HA.out hv he)
            have hneq:(deltaB L == s.toList) = true:=by rw [ByteArray.toList_eq,beq_iff_eq];exact he
            clear he hv hin hO hEr hnI
            go_wp2_with fail
            refine HC.out.mono ?_;rintro e w5 ⟨rfl,hb5⟩
            have Ho5:=Lib.hid (bown_below Hown.out hb5)
            have Hb5:=Lib.hid (Hb.out.trans (hb5.mono Hb.out.size))
            clear hb5
            go_wp2_with fail
            go_ret2
            exact ⟨RdRet.good HR.out (by rw [HmL.out];exact Ho5.out),Hb5.out⟩
          · have HR:=Lib.hid (readD_no (.inl rfl) hn HA.out (.inr he))
            have hneq:(deltaB L == s.toList) = false:=by rw [ByteArray.toList_eq,beq_eq_false_iff_ne];exact he
            clear he hv hin hO hEr hnI
            go_wp2_with fail
            refine HC.out.mono ?_;rintro e w5 ⟨rfl,hb5⟩
            have hev5:=(hb5.cell (p:=⟨1,0,none⟩) (block_lt_of_cell hevr)).trans hevr
            have Hb5:=Lib.hid (Hb.out.trans (hb5.mono Hb.out.size))
            clear hb5
            go_wp2_with fail
            go_quiet (fail)
            go_wp2_with fail
            go_ret2
            exact ⟨RdRet.bad HR.out,below_drewN Hb5.out _⟩
        · have HC:=Lib.hid (delta_err 2 (.inl rfl) _ (L.map (numI 2)) wr adr hEr HIs.out HO.out hv)
          have HR:=Lib.hid (readD_no (.inl rfl) hn HA.out (.inl hv))
          have HNv:=Lib.hid hv
          clear hv hin hO hEr hnI
          go_wp2_with fail
          refine HC.out.mono ?_;rintro e w5 ⟨⟨u,rfl,hu⟩,hb5⟩
          obtain ⟨T5,a5,rfl,hT⟩:=hu.some' HNv.out
          have hev5:=(hb5.cell (p:=⟨1,0,none⟩) (block_lt_of_cell hevr)).trans hevr
          have Hb5:=Lib.hid (Hb.out.trans (hb5.mono Hb.out.size))
          clear hb5 hu
          rcases hT with rfl | rfl
          all_goals
            go_wp2_with fail
            go_quiet (fail)
            go_wp2_with fail
            go_ret2
            exact ⟨RdRet.bad HR.out,below_drewN Hb5.out _⟩
end Go.Proofs.YtapiabmmfmfaeaaGreatDoor
