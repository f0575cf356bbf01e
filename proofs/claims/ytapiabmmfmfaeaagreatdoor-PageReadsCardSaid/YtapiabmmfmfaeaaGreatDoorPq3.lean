/- The walk of the statement PageReads. -/
import Derived.Test.YtapiabmmfmfaeaaGreatDoorPr5
import Derived.Test.YtapiabmmfmfaeaaGreatDoorPq2
import Derived.Test.YtapiabmmfmfaeaaGreatDoorMPw
import Derived.Test.YtapiabmmfmfaeaaGreatDoorMSam
import Derived.Test.YtapiabmmfmfaeaaGreatDoorMCa
import Derived.Test.YtapiabmmfmfaeaaGreatDoorMKnown
import Derived.Test.YtapiabmmfmfaeaaGreatDoorMTr
import Derived.Deep.RegionHeld3
import Derived.Deep.DeepCutAuto
namespace Go.Proofs.YtapiabmmfmfaeaaGreatDoor
set_option maxHeartbeats 16000000
set_option linter.unusedVariables false
set_option linter.unusedSimpArgs false
open Go Go.RowKit Go.ChangeShapes
theorem col_form3 {w:World} {u:Value} {c:Col} (h:IsCol w u c):∃ (n1 n2 n3 c1 c2 c3:Nat) (d1 d2 d3:Option Addr),u = .agg #[.int .i64 c.id,.slice d1 n1 c1,.slice d2 n2 c2,.slice d3 n3 c3]:=by
 obtain ⟨p,q,d,rfl,i1,i2,i3⟩:=h
 obtain ⟨x1,y1,rfl⟩:=i1.form;obtain ⟨x2,y2,rfl⟩:=i2.form;obtain ⟨x3,y3,rfl⟩:=i3.form
 exact ⟨_,_,_,_,_,_,_,_,_,rfl⟩
theorem pageR_inl {f:Lf} {L:List UInt8} {k:Nat} (h:pageR f L = .inl k):1 ≤ k ∧ k ≤ 8:=by
 unfold pageR at h
 split at h
 ·injection h with h;omega
 ·split at h
  ·injection h with h;omega
  ·injection h with h;omega
  ·split at h
   ·injection h with h;omega
   ·cases h
theorem peekR_inl {f:Lf} {L:List UInt8} {k:Nat} (h:peekR f L = .inl k):1 ≤ k ∧ k ≤ 8:=by
 unfold peekR at h
 split at h
 ·injection h with h;omega
 ·split at h
  ·injection h with h;omega
  ·injection h with h;omega
  ·split at h
   ·injection h with h;omega
   ·split at h
    ·injection h with h;omega
    ·cases h
def zcol:Col:=⟨0,[],[],[]⟩
theorem zcol_is (w:World):IsCol w (.agg #[.int .i64 0,.slice none 0 0,.slice none 0 0,.slice none 0 0]) zcol:=⟨_,_,_,rfl,.inl ⟨rfl,none,0,rfl⟩,.inl ⟨rfl,none,0,rfl⟩,.inl ⟨rfl,none,0,rfl⟩⟩
theorem pageR_short {f:Lf} {L:List UInt8} {c:Col} {u:Nat} (h:pageR f L = .inr (c,u)):c.rep.length ≤ 20000 ∧ c.df.length ≤ 20000 ∧ c.vals.length ≤ maxLen:=by
 unfold pageR at h
 split at h
 ·cases h
 ·rename_i hrt
  have hrp:1 ≤ f.kind ∧ f.kind ≤ 5 ∧ 0 ≤ f.mr ∧ f.mr ≤ 40 ∧ 0 ≤ f.md ∧ f.md ≤ 40:=by unfold rightB at hrt;simpa using hrt
  split at h
  ·cases h
  ·cases h
  ·split at h
   ·cases h
   ·rename_i c' hc
    simp only [Sum.inr.injEq,Prod.mk.injEq] at h
    obtain ⟨rfl,-⟩:=h
    unfold colR at hc
    split at hc
    ·cases hc
    ·rename_i t k hr
     obtain ⟨te,tn,e1,e2,hne,he2,-⟩:=readPr_ok hr
     split at hc
     ·cases hc
     ·split at hc
      ·cases hc
      ·rename_i rep k1 hl1
       split at hc
       ·cases hc
       ·rename_i df k2 hl2
        have h1:=(levR_ok hrp.2.2.1 hrp.2.2.2.1 hl1).1
        have h2:=(levR_ok hrp.2.2.2.2.1 hrp.2.2.2.2.2 hl2).1
        unfold valsR at hc
        split at hc
        ·cases hc
        ·split at hc
         ·cases hc
         ·split at hc
          ·cases hc
          ·split at hc
           ·cases hc
           ·rename_i l hb
            have h3:=(bestR_ok hrp.1 hrp.2.1 hb).1
            split at hc
            ·simp only [Option.some.injEq] at hc
             subst hc
             simp only [ints,List.length_map]
             unfold maxLen
             omega
            ·cases hc
set_option maxRecDepth 100000 in
theorem pr_bb (f:Lf) (s:ByteArray) (hs2:s.size ≤ maxLen) (vf:Value) (w:World) (adr:Nat → Addr) (hE:ErrEnv w adr) (hf:IsLf w vf f) (fo:f.Ok) (ek:Nat) (hR:pageR f s.data.toList = .inl ek) (ej:Nat) (hK:peekR f s.data.toList = .inl ej) :
  Calls Tryz.prog 3 #[vf,.string s] w fun e w'=>e = .returned (.bool true) ∧ Below w.heap.size w w':=by
 have HF:=Lib.hid (fun (w1:World) (h:Below w.heap.size w w1)=>hf.below h (Nat.le_refl _))
 have H2:=Lib.hid (fun (w1:World) (h:Below w.heap.size w w1)=>byte80_any w1 adr ((hE.errs.sub (by decide)).below h))
 have HE:=Lib.hid hE
 have HRi:=Lib.hid (fun (w1:World) (h:Below w.heap.size w w1)=>rightP_any f vf w1 (HF.out w1 h))
 have HOL0:=Lib.hid (fun (hp:f.path.length ≤ 100) (w1:World) (h:Below w.heap.size w w1)=>ownLeaf_any f vf w1 (HF.out w1 h) hp)
 have hek:=pageR_inl hR
 have HRd0:=Lib.hid (fun (hsz:s.size ≤ 1000000) (v1:Value) (w1:World) (h:Below w.heap.size w w1) (h1:IsLf w1 v1 f)=>show Calls Tryz.prog 6 #[v1,.string s] w1 fun e w'=>e = .returned (.tuple #[.agg #[.int .i64 0,.slice none 0 0,.slice none 0 0,.slice none 0 0],.int .i64 0,.iface 211 (.pointer (some (adr ek)))]) ∧ Below w1.heap.size w1 w' from
  (read_page f v1 s hsz w1 adr ((hE.errs.sub (by decide)).below h) h1 fo).mono fun e w' ⟨a,b⟩=>⟨by rw [hR] at a;exact a,b⟩)
 have HPo0:=Lib.hid (fun (hsz:s.size ≤ 1000000) (w1:World) (h:Below w.heap.size w w1)=>show Calls Tryz.prog 8 #[vf,.string s] w1 fun e w'=>e = .returned (.tuple #[.agg #[.int .i64 0,.slice none 0 0,.slice none 0 0,.slice none 0 0],.int .i64 0,.int .i64 (ek:Nat)]) ∧ Below w1.heap.size w1 w' from
  (rpo_any f vf s hsz w1 (HF.out w1 h) fo).mono fun e w' ⟨a,b⟩=>⟨by rw [hR] at a;exact a,b⟩)
 have HSz:=Lib.hid (fun (w1:World)=>sameCol_same zcol _ _ w1 (zcol_is w1) (zcol_is w1) (by decide) (by decide) (by decide))
 have Hek:=Lib.hid hek
 have hek0:decide (0 < ek) = true:=by simp;omega
 have hek1:0 < ek:=by omega
 clear hek
 have hej:=peekR_inl hK
 have HPk0:=fun (hsz:s.size ≤ 1000000) (v1:Value) (w1:World) (h:Below w.heap.size w w1) (h1:IsLf w1 v1 f)=>show Calls Tryz.prog 11 #[v1,.string s] w1 fun e w'=>e = .returned (.tuple #[.agg (stA St.none),.int .i64 0,.iface 211 (.pointer (some (adr ej)))]) ∧ Below w1.heap.size w1 w' from
  (peek_page f v1 s hsz w1 adr ((hE.errs.sub (by decide)).below h) h1 fo).mono fun e w' ⟨a,b⟩=>⟨by rw [hK] at a;exact a,b⟩
 have HKo0:=fun (hsz:s.size ≤ 1000000) (w1:World) (h:Below w.heap.size w w1)=>show Calls Tryz.prog 12 #[vf,.string s] w1 fun e w'=>e = .returned (.tuple #[.agg (stA St.none),.int .i64 0,.int .i64 (ej:Nat)]) ∧ Below w1.heap.size w1 w' from
  (peo_any f vf s hsz w1 (HF.out w1 h) fo).mono fun e w' ⟨a,b⟩=>⟨by rw [hK] at a;exact a,b⟩
 have he:∀ wx,(binOp .eql 43 (.agg (stA St.none)) (.agg (stA St.none))).run Tryz.prog wx = .ok (.bool true) wx:=fun wx=>by rw [eql_st,stEq_self]
 simp only [stA,St.none,zv] at he HPk0 HKo0
 have Hej:=Lib.hid hej
 have hej0:decide (0 < ej) = true:=by simp;omega
 have hej1:0 < ej:=by omega
 clear hej
 have He:=Lib.hid he
 have HCd:=Lib.hid (fun (k:Nat) (h1:1 ≤ k) (h8:k ≤ 8) (w1:World) (h:ErrEnv w1 adr)=>show Calls Tryz.prog 9 #[.iface 211 (.pointer (some (adr k))),.int .i64 (k:Nat)] w1 fun r w'=>r = .returned (.bool true) ∧ Below w1.heap.size w1 w' from
  (coded_any (e:=.sent k) (k:Int) h ⟨h1,h8,rfl⟩).mono fun r w' ⟨h3,h4⟩=>⟨h3.trans (ret_of (by simp [GErr.code,GErr.at'])),h4⟩)
 obtain ⟨p,rfl,hp⟩:=hf
 obtain ⟨ap,cp,rfl⟩:=hp.form
 unfold maxLen at hs2
 clear hE hp fo hR hK he
 unfold lfA at *
 generalize f.path.length = pn at *
 generalize rightP f = rp at *
 go_enter Tryz.func3,Tryz.ntmps3
 go_wp2_with fail
 refine (H2.out _ ((Below.refl _ _).alloc (Nat.le_refl _) _)).mono ?_;rintro e w1 ⟨rfl,hb1⟩
 obtain ⟨rA,hbw,hz⟩:=rows1 hb1
 have RA:=Lib.hid rA;have Hbw:=Lib.hid hbw
 clear hb1 rA hbw hz
 have cA:=rowc RA.out;have fA:=rowf RA.out
 by_cases hs:s.size ≤ 3000
 case neg =>
  have hs3:(3000:Int) < (s.size:Int):=by omega
  go_wp2_with fail
  go_ret
  exact ⟨rfl,Hbw.out⟩
 have hs3:¬ (3000:Int) < (s.size:Int):=by omega
 by_cases hpn:pn ≤ 100
 case neg =>
  have hpn3:(100:Int) < ((pn:Nat):Int):=by omega
  go_wp2_with fail
  go_ret
  exact ⟨rfl,Hbw.out⟩
 have hpn3:¬ (100:Int) < ((pn:Nat):Int):=by omega
 have HOL:=Lib.hid (HOL0.out hpn)
 have HRd:=Lib.hid (HRd0.out (by omega));have HPo:=Lib.hid (HPo0.out (by omega));have HPk:=Lib.hid (HPk0 (by omega));have HKo:=Lib.hid (HKo0 (by omega))
 clear HOL0 HRd0 HPo0 HPk0 HKo0 hpn hs hs2
 go_wp2_with fail
 refine (HRi.out _ Hbw.out).mono ?_;rintro e9 w2 ⟨rfl,hb9⟩
 clear cA fA
 replace RA:=Lib.hid (row_keep hb9 RA.out);replace Hbw:=Lib.hid (Hbw.out.trans (hb9.mono Hbw.out.size))
 clear hb9
 have cA:=rowc RA.out;have fA:=rowf RA.out
 cases rp with
 | false =>
  go_wp2_with fail
  go_ret
  exact ⟨rfl,Hbw.out⟩
 | true =>
 go_wp2_with fail
 refine (HOL.out _ Hbw.out).mono ?_;rintro e9 w4 ⟨⟨u1,rfl,hu1⟩,hb9⟩
 clear cA fA
 replace RA:=Lib.hid (row_keep hb9 RA.out);replace Hbw:=Lib.hid (Hbw.out.trans (hb9.mono Hbw.out.size))
 clear hb9
 have cA:=rowc RA.out;have fA:=rowf RA.out
 have HU1:=Lib.hid hu1
 clear hu1
 go_wp2_with fail
 refine (HRd.out _ _ Hbw.out HU1.out).mono ?_;rintro e9 w5 ⟨rfl,hb9⟩
 clear cA fA
 replace RA:=Lib.hid (row_keep hb9 RA.out);replace Hbw:=Lib.hid (Hbw.out.trans (hb9.mono Hbw.out.size))
 clear hb9
 have cA:=rowc RA.out;have fA:=rowf RA.out
 clear HU1
 go_upto_region 5 with fail
 have hb9:=(Below.refl w5.heap.size w5).alloc (Nat.le_refl _) (.cells #[.int .i64 0,.slice none 0 0,.slice none 0 0,.slice none 0 0] 29)
 clear cA fA
 replace RA:=Lib.hid (row_keep hb9 RA.out);replace Hbw:=Lib.hid (Hbw.out.trans (hb9.mono Hbw.out.size))
 have RX:=Lib.hid (heap_alloc_new w5 (.cells #[.int .i64 0,.slice none 0 0,.slice none 0 0,.slice none 0 0] 29))
 clear hb9
 generalize w5.alloc (.cells #[.int .i64 0,.slice none 0 0,.slice none 0 0,.slice none 0 0] 29) = w6 at *
 generalize w5.heap.size = gX at *
 have cA:=rowc RA.out;have fA:=rowf RA.out;have cX:=rowc RX.out;have fX:=rowf RX.out
 go_wp2_with fail
 refine (HPo.out _ Hbw.out).mono ?_;rintro e9 w7 ⟨rfl,hb9⟩
 clear cA fA cX fX
 replace RA:=Lib.hid (row_keep hb9 RA.out);replace RX:=Lib.hid (row_keep hb9 RX.out);replace Hbw:=Lib.hid (Hbw.out.trans (hb9.mono Hbw.out.size))
 clear hb9
 have cA:=rowc RA.out;have fA:=rowf RA.out;have cX:=rowc RX.out;have fX:=rowf RX.out
 go_upto_region 6 with fail
 have hb9:=(Below.refl w7.heap.size w7).alloc (Nat.le_refl _) (.cells #[.int .i64 0,.slice none 0 0,.slice none 0 0,.slice none 0 0] 29)
 clear cA fA cX fX
 replace RA:=Lib.hid (row_keep hb9 RA.out);replace RX:=Lib.hid (row_keep hb9 RX.out);replace Hbw:=Lib.hid (Hbw.out.trans (hb9.mono Hbw.out.size))
 have RY:=Lib.hid (heap_alloc_new w7 (.cells #[.int .i64 0,.slice none 0 0,.slice none 0 0,.slice none 0 0] 29))
 clear hb9
 generalize w7.alloc (.cells #[.int .i64 0,.slice none 0 0,.slice none 0 0,.slice none 0 0] 29) = w8 at *
 generalize w7.heap.size = gY at *
 have cA:=rowc RA.out;have fA:=rowf RA.out;have cX:=rowc RX.out;have fX:=rowf RX.out;have cY:=rowc RY.out;have fY:=rowf RY.out
 go_wp2_with fail
 refine (HCd.out ek Hek.out.1 Hek.out.2 _ (HE.out.below Hbw.out)).mono ?_;rintro e9 w9 ⟨rfl,hb9⟩
 clear cA fA cX fX cY fY
 replace RA:=Lib.hid (row_keep hb9 RA.out);replace RX:=Lib.hid (row_keep hb9 RX.out);replace RY:=Lib.hid (row_keep hb9 RY.out);replace Hbw:=Lib.hid (Hbw.out.trans (hb9.mono Hbw.out.size))
 clear hb9
 have cA:=rowc RA.out;have fA:=rowf RA.out;have cX:=rowc RX.out;have fX:=rowf RX.out;have cY:=rowc RY.out;have fY:=rowf RY.out
 go_wp2_with fail
 refine (HSz.out _).mono ?_;rintro e9 wa ⟨rfl,hb9⟩
 clear cA fA cX fX cY fY
 replace RA:=Lib.hid (row_keep hb9 RA.out);replace RX:=Lib.hid (row_keep hb9 RX.out);replace RY:=Lib.hid (row_keep hb9 RY.out);replace Hbw:=Lib.hid (Hbw.out.trans (hb9.mono Hbw.out.size))
 clear hb9
 have cA:=rowc RA.out;have fA:=rowf RA.out;have cX:=rowc RX.out;have fX:=rowf RX.out;have cY:=rowc RY.out;have fY:=rowf RY.out
 have he:=He.out
 clear cX fX cY fY RX RY
 go_wp2_with fail
 refine (HOL.out _ Hbw.out).mono ?_;rintro e9 wb ⟨⟨u1,rfl,hu1⟩,hb9⟩
 clear cA fA
 replace RA:=Lib.hid (row_keep hb9 RA.out);replace Hbw:=Lib.hid (Hbw.out.trans (hb9.mono Hbw.out.size))
 clear hb9
 have cA:=rowc RA.out;have fA:=rowf RA.out
 have HU1:=Lib.hid hu1
 clear hu1
 go_wp2_with fail
 refine (HPk.out _ _ Hbw.out HU1.out).mono ?_;rintro e9 wd ⟨rfl,hb9⟩
 clear cA fA
 replace RA:=Lib.hid (row_keep hb9 RA.out);replace Hbw:=Lib.hid (Hbw.out.trans (hb9.mono Hbw.out.size))
 clear hb9
 have cA:=rowc RA.out;have fA:=rowf RA.out
 clear HU1
 go_upto_region 12 with fail
 have hb9:=(Below.refl wd.heap.size wd).alloc (Nat.le_refl _) (.cells #[.int .i64 0,.int .i64 0,.bool false,.int .i64 0,.int .i64 0,.string ⟨#[]⟩,.int .i64 0,.int .i64 0,.string ⟨#[]⟩] 43)
 clear cA fA
 replace RA:=Lib.hid (row_keep hb9 RA.out);replace Hbw:=Lib.hid (Hbw.out.trans (hb9.mono Hbw.out.size))
 have RT:=Lib.hid (heap_alloc_new wd (.cells #[.int .i64 0,.int .i64 0,.bool false,.int .i64 0,.int .i64 0,.string ⟨#[]⟩,.int .i64 0,.int .i64 0,.string ⟨#[]⟩] 43))
 clear hb9
 generalize wd.alloc (.cells #[.int .i64 0,.int .i64 0,.bool false,.int .i64 0,.int .i64 0,.string ⟨#[]⟩,.int .i64 0,.int .i64 0,.string ⟨#[]⟩] 43) = we at *
 generalize wd.heap.size = gT at *
 have cA:=rowc RA.out;have fA:=rowf RA.out;have cT:=rowc RT.out;have fT:=rowf RT.out
 go_wp2_with fail
 refine (HKo.out _ Hbw.out).mono ?_;rintro e9 wf ⟨rfl,hb9⟩
 clear cA fA cT fT
 replace RA:=Lib.hid (row_keep hb9 RA.out);replace RT:=Lib.hid (row_keep hb9 RT.out);replace Hbw:=Lib.hid (Hbw.out.trans (hb9.mono Hbw.out.size))
 clear hb9
 have cA:=rowc RA.out;have fA:=rowf RA.out;have cT:=rowc RT.out;have fT:=rowf RT.out
 go_upto_region 13 with fail
 have hb9:=(Below.refl wf.heap.size wf).alloc (Nat.le_refl _) (.cells #[.int .i64 0,.int .i64 0,.bool false,.int .i64 0,.int .i64 0,.string ⟨#[]⟩,.int .i64 0,.int .i64 0,.string ⟨#[]⟩] 46)
 clear cA fA cT fT
 replace RA:=Lib.hid (row_keep hb9 RA.out);replace RT:=Lib.hid (row_keep hb9 RT.out);replace Hbw:=Lib.hid (Hbw.out.trans (hb9.mono Hbw.out.size))
 have RU:=Lib.hid (heap_alloc_new wf (.cells #[.int .i64 0,.int .i64 0,.bool false,.int .i64 0,.int .i64 0,.string ⟨#[]⟩,.int .i64 0,.int .i64 0,.string ⟨#[]⟩] 46))
 clear hb9
 generalize wf.alloc (.cells #[.int .i64 0,.int .i64 0,.bool false,.int .i64 0,.int .i64 0,.string ⟨#[]⟩,.int .i64 0,.int .i64 0,.string ⟨#[]⟩] 46) = wg at *
 generalize wf.heap.size = gU at *
 have cA:=rowc RA.out;have fA:=rowf RA.out;have cT:=rowc RT.out;have fT:=rowf RT.out;have cU:=rowc RU.out;have fU:=rowf RU.out
 go_wp2_with fail
 refine (HCd.out ej Hej.out.1 Hej.out.2 _ (HE.out.below Hbw.out)).mono ?_;rintro e9 wh ⟨rfl,hb9⟩
 clear cA fA cT fT cU fU
 replace RA:=Lib.hid (row_keep hb9 RA.out);replace RT:=Lib.hid (row_keep hb9 RT.out);replace RU:=Lib.hid (row_keep hb9 RU.out);replace Hbw:=Lib.hid (Hbw.out.trans (hb9.mono Hbw.out.size))
 clear hb9
 have cA:=rowc RA.out;have fA:=rowf RA.out;have cT:=rowc RT.out;have fT:=rowf RT.out;have cU:=rowc RU.out;have fU:=rowf RU.out
 go_wp2_with fail
 go_ret
 exact ⟨rfl,Hbw.out⟩
set_option maxRecDepth 100000 in
theorem pr_bg (f:Lf) (s:ByteArray) (hs2:s.size ≤ maxLen) (vf:Value) (w:World) (adr:Nat → Addr) (hE:ErrEnv w adr) (hf:IsLf w vf f) (fo:f.Ok) (ek:Nat) (hR:pageR f s.data.toList = .inl ek) (t:St) (uk:Nat) (hK:peekR f s.data.toList = .inr (t,uk)) :
  Calls Tryz.prog 3 #[vf,.string s] w fun e w'=>e = .returned (.bool true) ∧ Below w.heap.size w w':=by
 have HF:=Lib.hid (fun (w1:World) (h:Below w.heap.size w w1)=>hf.below h (Nat.le_refl _))
 have H2:=Lib.hid (fun (w1:World) (h:Below w.heap.size w w1)=>byte80_any w1 adr ((hE.errs.sub (by decide)).below h))
 have HE:=Lib.hid hE
 have HRi:=Lib.hid (fun (w1:World) (h:Below w.heap.size w w1)=>rightP_any f vf w1 (HF.out w1 h))
 have HOL0:=Lib.hid (fun (hp:f.path.length ≤ 100) (w1:World) (h:Below w.heap.size w w1)=>ownLeaf_any f vf w1 (HF.out w1 h) hp)
 have hek:=pageR_inl hR
 have HRd0:=Lib.hid (fun (hsz:s.size ≤ 1000000) (v1:Value) (w1:World) (h:Below w.heap.size w w1) (h1:IsLf w1 v1 f)=>show Calls Tryz.prog 6 #[v1,.string s] w1 fun e w'=>e = .returned (.tuple #[.agg #[.int .i64 0,.slice none 0 0,.slice none 0 0,.slice none 0 0],.int .i64 0,.iface 211 (.pointer (some (adr ek)))]) ∧ Below w1.heap.size w1 w' from
  (read_page f v1 s hsz w1 adr ((hE.errs.sub (by decide)).below h) h1 fo).mono fun e w' ⟨a,b⟩=>⟨by rw [hR] at a;exact a,b⟩)
 have HPo0:=Lib.hid (fun (hsz:s.size ≤ 1000000) (w1:World) (h:Below w.heap.size w w1)=>show Calls Tryz.prog 8 #[vf,.string s] w1 fun e w'=>e = .returned (.tuple #[.agg #[.int .i64 0,.slice none 0 0,.slice none 0 0,.slice none 0 0],.int .i64 0,.int .i64 (ek:Nat)]) ∧ Below w1.heap.size w1 w' from
  (rpo_any f vf s hsz w1 (HF.out w1 h) fo).mono fun e w' ⟨a,b⟩=>⟨by rw [hR] at a;exact a,b⟩)
 have HSz:=Lib.hid (fun (w1:World)=>sameCol_same zcol _ _ w1 (zcol_is w1) (zcol_is w1) (by decide) (by decide) (by decide))
 have Hek:=Lib.hid hek
 have hek0:decide (0 < ek) = true:=by simp;omega
 have hek1:0 < ek:=by omega
 clear hek
 have HPk0:=fun (hsz:s.size ≤ 1000000) (v1:Value) (w1:World) (h:Below w.heap.size w w1) (h1:IsLf w1 v1 f)=>show Calls Tryz.prog 11 #[v1,.string s] w1 fun e w'=>e = .returned (.tuple #[.agg (stA t),.int .i64 (uk:Nat),.nilIface]) ∧ Below w1.heap.size w1 w' from
  (peek_page f v1 s hsz w1 adr ((hE.errs.sub (by decide)).below h) h1 fo).mono fun e w' ⟨a,b⟩=>⟨by rw [hK] at a;exact a,b⟩
 have HKo0:=fun (hsz:s.size ≤ 1000000) (w1:World) (h:Below w.heap.size w w1)=>show Calls Tryz.prog 12 #[vf,.string s] w1 fun e w'=>e = .returned (.tuple #[.agg (stA t),.int .i64 (uk:Nat),.int .i64 0]) ∧ Below w1.heap.size w1 w' from
  (peo_any f vf s hsz w1 (HF.out w1 h) fo).mono fun e w' ⟨a,b⟩=>⟨by rw [hK] at a;exact a,b⟩
 have he:∀ wx,(binOp .eql 43 (.agg (stA t)) (.agg (stA t))).run Tryz.prog wx = .ok (.bool true) wx:=fun wx=>by rw [eql_st,stEq_self]
 have HST0:=fun w1=>statsOf_any t w1
 simp only [stA] at he HPk0 HKo0 HST0
 have HST:=Lib.hid HST0
 clear HST0
 have He:=Lib.hid he
 have HCd:=Lib.hid (fun (k:Nat) (h1:1 ≤ k) (h8:k ≤ 8) (w1:World) (h:ErrEnv w1 adr)=>show Calls Tryz.prog 9 #[.iface 211 (.pointer (some (adr k))),.int .i64 (k:Nat)] w1 fun r w'=>r = .returned (.bool true) ∧ Below w1.heap.size w1 w' from
  (coded_any (e:=.sent k) (k:Int) h ⟨h1,h8,rfl⟩).mono fun r w' ⟨h3,h4⟩=>⟨h3.trans (ret_of (by simp [GErr.code,GErr.at'])),h4⟩)
 obtain ⟨p,rfl,hp⟩:=hf
 obtain ⟨ap,cp,rfl⟩:=hp.form
 unfold maxLen at hs2
 clear hE hp fo hR hK he
 unfold lfA at *
 generalize f.path.length = pn at *
 generalize rightP f = rp at *
 go_enter Tryz.func3,Tryz.ntmps3
 go_wp2_with fail
 refine (H2.out _ ((Below.refl _ _).alloc (Nat.le_refl _) _)).mono ?_;rintro e w1 ⟨rfl,hb1⟩
 obtain ⟨rA,hbw,hz⟩:=rows1 hb1
 have RA:=Lib.hid rA;have Hbw:=Lib.hid hbw
 clear hb1 rA hbw hz
 have cA:=rowc RA.out;have fA:=rowf RA.out
 by_cases hs:s.size ≤ 3000
 case neg =>
  have hs3:(3000:Int) < (s.size:Int):=by omega
  go_wp2_with fail
  go_ret
  exact ⟨rfl,Hbw.out⟩
 have hs3:¬ (3000:Int) < (s.size:Int):=by omega
 by_cases hpn:pn ≤ 100
 case neg =>
  have hpn3:(100:Int) < ((pn:Nat):Int):=by omega
  go_wp2_with fail
  go_ret
  exact ⟨rfl,Hbw.out⟩
 have hpn3:¬ (100:Int) < ((pn:Nat):Int):=by omega
 have HOL:=Lib.hid (HOL0.out hpn)
 have HRd:=Lib.hid (HRd0.out (by omega));have HPo:=Lib.hid (HPo0.out (by omega));have HPk:=Lib.hid (HPk0 (by omega));have HKo:=Lib.hid (HKo0 (by omega))
 clear HOL0 HRd0 HPo0 HPk0 HKo0 hpn hs hs2
 go_wp2_with fail
 refine (HRi.out _ Hbw.out).mono ?_;rintro e9 w2 ⟨rfl,hb9⟩
 clear cA fA
 replace RA:=Lib.hid (row_keep hb9 RA.out);replace Hbw:=Lib.hid (Hbw.out.trans (hb9.mono Hbw.out.size))
 clear hb9
 have cA:=rowc RA.out;have fA:=rowf RA.out
 cases rp with
 | false =>
  go_wp2_with fail
  go_ret
  exact ⟨rfl,Hbw.out⟩
 | true =>
 go_wp2_with fail
 refine (HOL.out _ Hbw.out).mono ?_;rintro e9 w4 ⟨⟨u1,rfl,hu1⟩,hb9⟩
 clear cA fA
 replace RA:=Lib.hid (row_keep hb9 RA.out);replace Hbw:=Lib.hid (Hbw.out.trans (hb9.mono Hbw.out.size))
 clear hb9
 have cA:=rowc RA.out;have fA:=rowf RA.out
 have HU1:=Lib.hid hu1
 clear hu1
 go_wp2_with fail
 refine (HRd.out _ _ Hbw.out HU1.out).mono ?_;rintro e9 w5 ⟨rfl,hb9⟩
 clear cA fA
 replace RA:=Lib.hid (row_keep hb9 RA.out);replace Hbw:=Lib.hid (Hbw.out.trans (hb9.mono Hbw.out.size))
 clear hb9
 have cA:=rowc RA.out;have fA:=rowf RA.out
 clear HU1
 go_upto_region 5 with fail
 have hb9:=(Below.refl w5.heap.size w5).alloc (Nat.le_refl _) (.cells #[.int .i64 0,.slice none 0 0,.slice none 0 0,.slice none 0 0] 29)
 clear cA fA
 replace RA:=Lib.hid (row_keep hb9 RA.out);replace Hbw:=Lib.hid (Hbw.out.trans (hb9.mono Hbw.out.size))
 have RX:=Lib.hid (heap_alloc_new w5 (.cells #[.int .i64 0,.slice none 0 0,.slice none 0 0,.slice none 0 0] 29))
 clear hb9
 generalize w5.alloc (.cells #[.int .i64 0,.slice none 0 0,.slice none 0 0,.slice none 0 0] 29) = w6 at *
 generalize w5.heap.size = gX at *
 have cA:=rowc RA.out;have fA:=rowf RA.out;have cX:=rowc RX.out;have fX:=rowf RX.out
 go_wp2_with fail
 refine (HPo.out _ Hbw.out).mono ?_;rintro e9 w7 ⟨rfl,hb9⟩
 clear cA fA cX fX
 replace RA:=Lib.hid (row_keep hb9 RA.out);replace RX:=Lib.hid (row_keep hb9 RX.out);replace Hbw:=Lib.hid (Hbw.out.trans (hb9.mono Hbw.out.size))
 clear hb9
 have cA:=rowc RA.out;have fA:=rowf RA.out;have cX:=rowc RX.out;have fX:=rowf RX.out
 go_upto_region 6 with fail
 have hb9:=(Below.refl w7.heap.size w7).alloc (Nat.le_refl _) (.cells #[.int .i64 0,.slice none 0 0,.slice none 0 0,.slice none 0 0] 29)
 clear cA fA cX fX
 replace RA:=Lib.hid (row_keep hb9 RA.out);replace RX:=Lib.hid (row_keep hb9 RX.out);replace Hbw:=Lib.hid (Hbw.out.trans (hb9.mono Hbw.out.size))
 have RY:=Lib.hid (heap_alloc_new w7 (.cells #[.int .i64 0,.slice none 0 0,.slice none 0 0,.slice none 0 0] 29))
 clear hb9
 generalize w7.alloc (.cells #[.int .i64 0,.slice none 0 0,.slice none 0 0,.slice none 0 0] 29) = w8 at *
 generalize w7.heap.size = gY at *
 have cA:=rowc RA.out;have fA:=rowf RA.out;have cX:=rowc RX.out;have fX:=rowf RX.out;have cY:=rowc RY.out;have fY:=rowf RY.out
 go_wp2_with fail
 refine (HCd.out ek Hek.out.1 Hek.out.2 _ (HE.out.below Hbw.out)).mono ?_;rintro e9 w9 ⟨rfl,hb9⟩
 clear cA fA cX fX cY fY
 replace RA:=Lib.hid (row_keep hb9 RA.out);replace RX:=Lib.hid (row_keep hb9 RX.out);replace RY:=Lib.hid (row_keep hb9 RY.out);replace Hbw:=Lib.hid (Hbw.out.trans (hb9.mono Hbw.out.size))
 clear hb9
 have cA:=rowc RA.out;have fA:=rowf RA.out;have cX:=rowc RX.out;have fX:=rowf RX.out;have cY:=rowc RY.out;have fY:=rowf RY.out
 go_wp2_with fail
 refine (HSz.out _).mono ?_;rintro e9 wa ⟨rfl,hb9⟩
 clear cA fA cX fX cY fY
 replace RA:=Lib.hid (row_keep hb9 RA.out);replace RX:=Lib.hid (row_keep hb9 RX.out);replace RY:=Lib.hid (row_keep hb9 RY.out);replace Hbw:=Lib.hid (Hbw.out.trans (hb9.mono Hbw.out.size))
 clear hb9
 have cA:=rowc RA.out;have fA:=rowf RA.out;have cX:=rowc RX.out;have fX:=rowf RX.out;have cY:=rowc RY.out;have fY:=rowf RY.out
 have he:=He.out
 clear cX fX cY fY RX RY
 go_wp2_with fail
 refine (HOL.out _ Hbw.out).mono ?_;rintro e9 wb ⟨⟨u1,rfl,hu1⟩,hb9⟩
 clear cA fA
 replace RA:=Lib.hid (row_keep hb9 RA.out);replace Hbw:=Lib.hid (Hbw.out.trans (hb9.mono Hbw.out.size))
 clear hb9
 have cA:=rowc RA.out;have fA:=rowf RA.out
 have HU1:=Lib.hid hu1
 clear hu1
 go_wp2_with fail
 refine (HPk.out _ _ Hbw.out HU1.out).mono ?_;rintro e9 wd ⟨rfl,hb9⟩
 clear cA fA
 replace RA:=Lib.hid (row_keep hb9 RA.out);replace Hbw:=Lib.hid (Hbw.out.trans (hb9.mono Hbw.out.size))
 clear hb9
 have cA:=rowc RA.out;have fA:=rowf RA.out
 clear HU1
 go_upto_region 12 with fail
 have hb9:=(Below.refl wd.heap.size wd).alloc (Nat.le_refl _) (.cells #[.int .i64 t.e,.int .i64 t.n,.bool t.has,.int .i64 t.lo.k,.int .i64 t.lo.n,.string t.lo.s,.int .i64 t.hi.k,.int .i64 t.hi.n,.string t.hi.s] 43)
 clear cA fA
 replace RA:=Lib.hid (row_keep hb9 RA.out);replace Hbw:=Lib.hid (Hbw.out.trans (hb9.mono Hbw.out.size))
 have RT:=Lib.hid (heap_alloc_new wd (.cells #[.int .i64 t.e,.int .i64 t.n,.bool t.has,.int .i64 t.lo.k,.int .i64 t.lo.n,.string t.lo.s,.int .i64 t.hi.k,.int .i64 t.hi.n,.string t.hi.s] 43))
 clear hb9
 generalize wd.alloc (.cells #[.int .i64 t.e,.int .i64 t.n,.bool t.has,.int .i64 t.lo.k,.int .i64 t.lo.n,.string t.lo.s,.int .i64 t.hi.k,.int .i64 t.hi.n,.string t.hi.s] 43) = we at *
 generalize wd.heap.size = gT at *
 have cA:=rowc RA.out;have fA:=rowf RA.out;have cT:=rowc RT.out;have fT:=rowf RT.out
 go_wp2_with fail
 refine (HKo.out _ Hbw.out).mono ?_;rintro e9 wf ⟨rfl,hb9⟩
 clear cA fA cT fT
 replace RA:=Lib.hid (row_keep hb9 RA.out);replace RT:=Lib.hid (row_keep hb9 RT.out);replace Hbw:=Lib.hid (Hbw.out.trans (hb9.mono Hbw.out.size))
 clear hb9
 have cA:=rowc RA.out;have fA:=rowf RA.out;have cT:=rowc RT.out;have fT:=rowf RT.out
 go_upto_region 15 with fail
 have hb9:=(Below.refl wf.heap.size wf).alloc (Nat.le_refl _) (.cells #[.int .i64 t.e,.int .i64 t.n,.bool t.has,.int .i64 t.lo.k,.int .i64 t.lo.n,.string t.lo.s,.int .i64 t.hi.k,.int .i64 t.hi.n,.string t.hi.s] 46)
 clear cA fA cT fT
 replace RA:=Lib.hid (row_keep hb9 RA.out);replace RT:=Lib.hid (row_keep hb9 RT.out);replace Hbw:=Lib.hid (Hbw.out.trans (hb9.mono Hbw.out.size))
 have RU:=Lib.hid (heap_alloc_new wf (.cells #[.int .i64 t.e,.int .i64 t.n,.bool t.has,.int .i64 t.lo.k,.int .i64 t.lo.n,.string t.lo.s,.int .i64 t.hi.k,.int .i64 t.hi.n,.string t.hi.s] 46))
 clear hb9
 generalize wf.alloc (.cells #[.int .i64 t.e,.int .i64 t.n,.bool t.has,.int .i64 t.lo.k,.int .i64 t.lo.n,.string t.lo.s,.int .i64 t.hi.k,.int .i64 t.hi.n,.string t.hi.s] 46) = wg at *
 generalize wf.heap.size = gU at *
 have cA:=rowc RA.out;have fA:=rowf RA.out;have cT:=rowc RT.out;have fT:=rowf RT.out;have cU:=rowc RU.out;have fU:=rowf RU.out
 have HB:=Lib.hid (Below.refl wg.heap.size wg)
 go_region_held3 (fun w'=>(∀ j,w'.cell? ⟨gT,j,none⟩ = (#[.int .i64 t.e,.int .i64 t.n,.bool t.has,.int .i64 t.lo.k,.int .i64 t.lo.n,.string t.lo.s,.int .i64 t.hi.k,.int .i64 t.hi.n,.string t.hi.s]:Array Value)[j]?) ∧ (∀ j,w'.cell? ⟨gU,j,none⟩ = (#[.int .i64 t.e,.int .i64 t.n,.bool t.has,.int .i64 t.lo.k,.int .i64 t.lo.n,.string t.lo.s,.int .i64 t.hi.k,.int .i64 t.hi.n,.string t.hi.s]:Array Value)[j]?)) (first | (with_reducible exact ⟨rowc RT.out,rowc RU.out⟩) | (with_reducible exact ⟨rowc_drew RT.out,rowc_drew RU.out⟩))
  (first
  | (go_at_call 13;(with_reducible refine (HST.out _).mono ?_);rintro e w9 ⟨rfl,hb9⟩;(first | (with_reducible have hbs:=drew_first hb9) | (have hbs:=hb9));replace RT:=Lib.hid (row_keep hbs RT.out);replace RU:=Lib.hid (row_keep hbs RU.out);replace HB:=Lib.hid (HB.out.trans (hbs.mono HB.out.size));clear hb9 hbs))
 all_goals (go_wp2_with fail;go_ret;exact ⟨rfl,Hbw.out.trans (HB.out.mono Hbw.out.size)⟩)
set_option maxRecDepth 100000 in
theorem pr_gb (f:Lf) (s:ByteArray) (hs2:s.size ≤ maxLen) (vf:Value) (w:World) (adr:Nat → Addr) (hE:ErrEnv w adr) (hf:IsLf w vf f) (fo:f.Ok) (c:Col) (u:Nat) (hR:pageR f s.data.toList = .inr (c,u)) (ej:Nat) (hK:peekR f s.data.toList = .inl ej) :
  Calls Tryz.prog 3 #[vf,.string s] w fun e w'=>e = .returned (.bool true) ∧ Below w.heap.size w w':=by
 have HF:=Lib.hid (fun (w1:World) (h:Below w.heap.size w w1)=>hf.below h (Nat.le_refl _))
 have H2:=Lib.hid (fun (w1:World) (h:Below w.heap.size w w1)=>byte80_any w1 adr ((hE.errs.sub (by decide)).below h))
 have HE:=Lib.hid hE
 have HRi:=Lib.hid (fun (w1:World) (h:Below w.heap.size w w1)=>rightP_any f vf w1 (HF.out w1 h))
 have HOL0:=Lib.hid (fun (hp:f.path.length ≤ 100) (w1:World) (h:Below w.heap.size w w1)=>ownLeaf_any f vf w1 (HF.out w1 h) hp)
 have hsh:=pageR_short hR
 have HRd0:=Lib.hid (fun (hsz:s.size ≤ 1000000) (v1:Value) (w1:World) (h:Below w.heap.size w w1) (h1:IsLf w1 v1 f)=>show Calls Tryz.prog 6 #[v1,.string s] w1 fun e w'=>(∃ y,e = .returned (.tuple #[y,.int .i64 (u:Nat),.nilIface]) ∧ IsCol w' y c) ∧ Below w1.heap.size w1 w' from
  (read_page f v1 s hsz w1 adr ((hE.errs.sub (by decide)).below h) h1 fo).mono fun e w' ⟨a,b⟩=>⟨by rw [hR] at a;exact a,b⟩)
 have HPo0:=Lib.hid (fun (hsz:s.size ≤ 1000000) (w1:World) (h:Below w.heap.size w w1)=>show Calls Tryz.prog 8 #[vf,.string s] w1 fun e w'=>(∃ y,e = .returned (.tuple #[y,.int .i64 (u:Nat),.int .i64 0]) ∧ IsCol w' y c) ∧ Below w1.heap.size w1 w' from
  (rpo_any f vf s hsz w1 (HF.out w1 h) fo).mono fun e w' ⟨a,b⟩=>⟨by rw [hR] at a;exact a,b⟩)
 have HSc:=Lib.hid (fun (v1 v2:Value) (w1:World) (h1:IsCol w1 v1 c) (h2:IsCol w1 v2 c)=>sameCol_same c v1 v2 w1 h1 h2 (by omega) (by omega) hsh.2.2)
 clear hsh
 have hej:=peekR_inl hK
 have HPk0:=fun (hsz:s.size ≤ 1000000) (v1:Value) (w1:World) (h:Below w.heap.size w w1) (h1:IsLf w1 v1 f)=>show Calls Tryz.prog 11 #[v1,.string s] w1 fun e w'=>e = .returned (.tuple #[.agg (stA St.none),.int .i64 0,.iface 211 (.pointer (some (adr ej)))]) ∧ Below w1.heap.size w1 w' from
  (peek_page f v1 s hsz w1 adr ((hE.errs.sub (by decide)).below h) h1 fo).mono fun e w' ⟨a,b⟩=>⟨by rw [hK] at a;exact a,b⟩
 have HKo0:=fun (hsz:s.size ≤ 1000000) (w1:World) (h:Below w.heap.size w w1)=>show Calls Tryz.prog 12 #[vf,.string s] w1 fun e w'=>e = .returned (.tuple #[.agg (stA St.none),.int .i64 0,.int .i64 (ej:Nat)]) ∧ Below w1.heap.size w1 w' from
  (peo_any f vf s hsz w1 (HF.out w1 h) fo).mono fun e w' ⟨a,b⟩=>⟨by rw [hK] at a;exact a,b⟩
 have he:∀ wx,(binOp .eql 43 (.agg (stA St.none)) (.agg (stA St.none))).run Tryz.prog wx = .ok (.bool true) wx:=fun wx=>by rw [eql_st,stEq_self]
 simp only [stA,St.none,zv] at he HPk0 HKo0
 have Hej:=Lib.hid hej
 have hej0:decide (0 < ej) = true:=by simp;omega
 have hej1:0 < ej:=by omega
 clear hej
 have He:=Lib.hid he
 have HCd:=Lib.hid (fun (k:Nat) (h1:1 ≤ k) (h8:k ≤ 8) (w1:World) (h:ErrEnv w1 adr)=>show Calls Tryz.prog 9 #[.iface 211 (.pointer (some (adr k))),.int .i64 (k:Nat)] w1 fun r w'=>r = .returned (.bool true) ∧ Below w1.heap.size w1 w' from
  (coded_any (e:=.sent k) (k:Int) h ⟨h1,h8,rfl⟩).mono fun r w' ⟨h3,h4⟩=>⟨h3.trans (ret_of (by simp [GErr.code,GErr.at'])),h4⟩)
 obtain ⟨p,rfl,hp⟩:=hf
 obtain ⟨ap,cp,rfl⟩:=hp.form
 unfold maxLen at hs2
 clear hE hp fo hR hK he
 unfold lfA at *
 generalize f.path.length = pn at *
 generalize rightP f = rp at *
 go_enter Tryz.func3,Tryz.ntmps3
 go_wp2_with fail
 refine (H2.out _ ((Below.refl _ _).alloc (Nat.le_refl _) _)).mono ?_;rintro e w1 ⟨rfl,hb1⟩
 obtain ⟨rA,hbw,hz⟩:=rows1 hb1
 have RA:=Lib.hid rA;have Hbw:=Lib.hid hbw
 clear hb1 rA hbw hz
 have cA:=rowc RA.out;have fA:=rowf RA.out
 by_cases hs:s.size ≤ 3000
 case neg =>
  have hs3:(3000:Int) < (s.size:Int):=by omega
  go_wp2_with fail
  go_ret
  exact ⟨rfl,Hbw.out⟩
 have hs3:¬ (3000:Int) < (s.size:Int):=by omega
 by_cases hpn:pn ≤ 100
 case neg =>
  have hpn3:(100:Int) < ((pn:Nat):Int):=by omega
  go_wp2_with fail
  go_ret
  exact ⟨rfl,Hbw.out⟩
 have hpn3:¬ (100:Int) < ((pn:Nat):Int):=by omega
 have HOL:=Lib.hid (HOL0.out hpn)
 have HRd:=Lib.hid (HRd0.out (by omega));have HPo:=Lib.hid (HPo0.out (by omega));have HPk:=Lib.hid (HPk0 (by omega));have HKo:=Lib.hid (HKo0 (by omega))
 clear HOL0 HRd0 HPo0 HPk0 HKo0 hpn hs hs2
 go_wp2_with fail
 refine (HRi.out _ Hbw.out).mono ?_;rintro e9 w2 ⟨rfl,hb9⟩
 clear cA fA
 replace RA:=Lib.hid (row_keep hb9 RA.out);replace Hbw:=Lib.hid (Hbw.out.trans (hb9.mono Hbw.out.size))
 clear hb9
 have cA:=rowc RA.out;have fA:=rowf RA.out
 cases rp with
 | false =>
  go_wp2_with fail
  go_ret
  exact ⟨rfl,Hbw.out⟩
 | true =>
 go_wp2_with fail
 refine (HOL.out _ Hbw.out).mono ?_;rintro e9 w4 ⟨⟨u1,rfl,hu1⟩,hb9⟩
 clear cA fA
 replace RA:=Lib.hid (row_keep hb9 RA.out);replace Hbw:=Lib.hid (Hbw.out.trans (hb9.mono Hbw.out.size))
 clear hb9
 have cA:=rowc RA.out;have fA:=rowf RA.out
 have HU1:=Lib.hid hu1
 clear hu1
 go_wp2_with fail
 refine (HRd.out _ _ Hbw.out HU1.out).mono ?_;rintro e9 w5 ⟨⟨u2,rfl,hu2⟩,hb9⟩
 clear cA fA
 replace RA:=Lib.hid (row_keep hb9 RA.out);replace Hbw:=Lib.hid (Hbw.out.trans (hb9.mono Hbw.out.size))
 clear hb9
 have cA:=rowc RA.out;have fA:=rowf RA.out
 obtain ⟨n1,n2,n3,c1,c2,c3,d1,d2,d3,rfl⟩:=col_form3 hu2
 have HU2:=Lib.hid hu2
 clear hu2 HU1
 go_upto_region 5 with fail
 have hb9:=(Below.refl w5.heap.size w5).alloc (Nat.le_refl _) (.cells #[.int .i64 c.id,.slice d1 n1 c1,.slice d2 n2 c2,.slice d3 n3 c3] 29)
 clear cA fA
 replace RA:=Lib.hid (row_keep hb9 RA.out);replace HU2:=Lib.hid (HU2.out.below hb9 (Nat.le_refl _));replace Hbw:=Lib.hid (Hbw.out.trans (hb9.mono Hbw.out.size))
 have RX:=Lib.hid (heap_alloc_new w5 (.cells #[.int .i64 c.id,.slice d1 n1 c1,.slice d2 n2 c2,.slice d3 n3 c3] 29))
 clear hb9
 generalize w5.alloc (.cells #[.int .i64 c.id,.slice d1 n1 c1,.slice d2 n2 c2,.slice d3 n3 c3] 29) = w6 at *
 generalize w5.heap.size = gX at *
 have cA:=rowc RA.out;have fA:=rowf RA.out;have cX:=rowc RX.out;have fX:=rowf RX.out
 go_wp2_with fail
 refine (HPo.out _ Hbw.out).mono ?_;rintro e9 w7 ⟨⟨u3,rfl,hu3⟩,hb9⟩
 clear cA fA cX fX
 replace RA:=Lib.hid (row_keep hb9 RA.out);replace RX:=Lib.hid (row_keep hb9 RX.out);replace HU2:=Lib.hid (HU2.out.below hb9 (Nat.le_refl _));replace Hbw:=Lib.hid (Hbw.out.trans (hb9.mono Hbw.out.size))
 clear hb9
 have cA:=rowc RA.out;have fA:=rowf RA.out;have cX:=rowc RX.out;have fX:=rowf RX.out
 obtain ⟨m1,m2,m3,k1,k2,k3,e1,e2,e3,rfl⟩:=col_form3 hu3
 have HU3:=Lib.hid hu3
 clear hu3
 go_upto_region 6 with fail
 have hb9:=(Below.refl w7.heap.size w7).alloc (Nat.le_refl _) (.cells #[.int .i64 c.id,.slice e1 m1 k1,.slice e2 m2 k2,.slice e3 m3 k3] 29)
 clear cA fA cX fX
 replace RA:=Lib.hid (row_keep hb9 RA.out);replace RX:=Lib.hid (row_keep hb9 RX.out);replace HU2:=Lib.hid (HU2.out.below hb9 (Nat.le_refl _));replace HU3:=Lib.hid (HU3.out.below hb9 (Nat.le_refl _));replace Hbw:=Lib.hid (Hbw.out.trans (hb9.mono Hbw.out.size))
 have RY:=Lib.hid (heap_alloc_new w7 (.cells #[.int .i64 c.id,.slice e1 m1 k1,.slice e2 m2 k2,.slice e3 m3 k3] 29))
 clear hb9
 generalize w7.alloc (.cells #[.int .i64 c.id,.slice e1 m1 k1,.slice e2 m2 k2,.slice e3 m3 k3] 29) = w8 at *
 generalize w7.heap.size = gY at *
 have cA:=rowc RA.out;have fA:=rowf RA.out;have cX:=rowc RX.out;have fX:=rowf RX.out;have cY:=rowc RY.out;have fY:=rowf RY.out
 go_wp2_with fail
 refine (HSc.out _ _ _ HU2.out HU3.out).mono ?_;rintro e9 wa ⟨rfl,hb9⟩
 clear cA fA cX fX cY fY
 replace RA:=Lib.hid (row_keep hb9 RA.out);replace RX:=Lib.hid (row_keep hb9 RX.out);replace RY:=Lib.hid (row_keep hb9 RY.out);replace Hbw:=Lib.hid (Hbw.out.trans (hb9.mono Hbw.out.size))
 clear hb9
 have cA:=rowc RA.out;have fA:=rowf RA.out;have cX:=rowc RX.out;have fX:=rowf RX.out;have cY:=rowc RY.out;have fY:=rowf RY.out
 clear HU2 HU3
 have he:=He.out
 clear cX fX cY fY RX RY
 go_wp2_with fail
 refine (HOL.out _ Hbw.out).mono ?_;rintro e9 wb ⟨⟨u1,rfl,hu1⟩,hb9⟩
 clear cA fA
 replace RA:=Lib.hid (row_keep hb9 RA.out);replace Hbw:=Lib.hid (Hbw.out.trans (hb9.mono Hbw.out.size))
 clear hb9
 have cA:=rowc RA.out;have fA:=rowf RA.out
 have HU1:=Lib.hid hu1
 clear hu1
 go_wp2_with fail
 refine (HPk.out _ _ Hbw.out HU1.out).mono ?_;rintro e9 wd ⟨rfl,hb9⟩
 clear cA fA
 replace RA:=Lib.hid (row_keep hb9 RA.out);replace Hbw:=Lib.hid (Hbw.out.trans (hb9.mono Hbw.out.size))
 clear hb9
 have cA:=rowc RA.out;have fA:=rowf RA.out
 clear HU1
 go_upto_region 12 with fail
 have hb9:=(Below.refl wd.heap.size wd).alloc (Nat.le_refl _) (.cells #[.int .i64 0,.int .i64 0,.bool false,.int .i64 0,.int .i64 0,.string ⟨#[]⟩,.int .i64 0,.int .i64 0,.string ⟨#[]⟩] 43)
 clear cA fA
 replace RA:=Lib.hid (row_keep hb9 RA.out);replace Hbw:=Lib.hid (Hbw.out.trans (hb9.mono Hbw.out.size))
 have RT:=Lib.hid (heap_alloc_new wd (.cells #[.int .i64 0,.int .i64 0,.bool false,.int .i64 0,.int .i64 0,.string ⟨#[]⟩,.int .i64 0,.int .i64 0,.string ⟨#[]⟩] 43))
 clear hb9
 generalize wd.alloc (.cells #[.int .i64 0,.int .i64 0,.bool false,.int .i64 0,.int .i64 0,.string ⟨#[]⟩,.int .i64 0,.int .i64 0,.string ⟨#[]⟩] 43) = we at *
 generalize wd.heap.size = gT at *
 have cA:=rowc RA.out;have fA:=rowf RA.out;have cT:=rowc RT.out;have fT:=rowf RT.out
 go_wp2_with fail
 refine (HKo.out _ Hbw.out).mono ?_;rintro e9 wf ⟨rfl,hb9⟩
 clear cA fA cT fT
 replace RA:=Lib.hid (row_keep hb9 RA.out);replace RT:=Lib.hid (row_keep hb9 RT.out);replace Hbw:=Lib.hid (Hbw.out.trans (hb9.mono Hbw.out.size))
 clear hb9
 have cA:=rowc RA.out;have fA:=rowf RA.out;have cT:=rowc RT.out;have fT:=rowf RT.out
 go_upto_region 13 with fail
 have hb9:=(Below.refl wf.heap.size wf).alloc (Nat.le_refl _) (.cells #[.int .i64 0,.int .i64 0,.bool false,.int .i64 0,.int .i64 0,.string ⟨#[]⟩,.int .i64 0,.int .i64 0,.string ⟨#[]⟩] 46)
 clear cA fA cT fT
 replace RA:=Lib.hid (row_keep hb9 RA.out);replace RT:=Lib.hid (row_keep hb9 RT.out);replace Hbw:=Lib.hid (Hbw.out.trans (hb9.mono Hbw.out.size))
 have RU:=Lib.hid (heap_alloc_new wf (.cells #[.int .i64 0,.int .i64 0,.bool false,.int .i64 0,.int .i64 0,.string ⟨#[]⟩,.int .i64 0,.int .i64 0,.string ⟨#[]⟩] 46))
 clear hb9
 generalize wf.alloc (.cells #[.int .i64 0,.int .i64 0,.bool false,.int .i64 0,.int .i64 0,.string ⟨#[]⟩,.int .i64 0,.int .i64 0,.string ⟨#[]⟩] 46) = wg at *
 generalize wf.heap.size = gU at *
 have cA:=rowc RA.out;have fA:=rowf RA.out;have cT:=rowc RT.out;have fT:=rowf RT.out;have cU:=rowc RU.out;have fU:=rowf RU.out
 go_wp2_with fail
 refine (HCd.out ej Hej.out.1 Hej.out.2 _ (HE.out.below Hbw.out)).mono ?_;rintro e9 wh ⟨rfl,hb9⟩
 clear cA fA cT fT cU fU
 replace RA:=Lib.hid (row_keep hb9 RA.out);replace RT:=Lib.hid (row_keep hb9 RT.out);replace RU:=Lib.hid (row_keep hb9 RU.out);replace Hbw:=Lib.hid (Hbw.out.trans (hb9.mono Hbw.out.size))
 clear hb9
 have cA:=rowc RA.out;have fA:=rowf RA.out;have cT:=rowc RT.out;have fT:=rowf RT.out;have cU:=rowc RU.out;have fU:=rowf RU.out
 go_wp2_with fail
 go_ret
 exact ⟨rfl,Hbw.out⟩
set_option maxRecDepth 100000 in
theorem pr_gg (f:Lf) (s:ByteArray) (hs2:s.size ≤ maxLen) (vf:Value) (w:World) (adr:Nat → Addr) (hE:ErrEnv w adr) (hf:IsLf w vf f) (fo:f.Ok) (c:Col) (u:Nat) (hR:pageR f s.data.toList = .inr (c,u)) (t:St) (uk:Nat) (hK:peekR f s.data.toList = .inr (t,uk)) :
  Calls Tryz.prog 3 #[vf,.string s] w fun e w'=>e = .returned (.bool true) ∧ Below w.heap.size w w':=by
 have HF:=Lib.hid (fun (w1:World) (h:Below w.heap.size w w1)=>hf.below h (Nat.le_refl _))
 have H2:=Lib.hid (fun (w1:World) (h:Below w.heap.size w w1)=>byte80_any w1 adr ((hE.errs.sub (by decide)).below h))
 have HE:=Lib.hid hE
 have HRi:=Lib.hid (fun (w1:World) (h:Below w.heap.size w w1)=>rightP_any f vf w1 (HF.out w1 h))
 have HOL0:=Lib.hid (fun (hp:f.path.length ≤ 100) (w1:World) (h:Below w.heap.size w w1)=>ownLeaf_any f vf w1 (HF.out w1 h) hp)
 have hsh:=pageR_short hR
 have HRd0:=Lib.hid (fun (hsz:s.size ≤ 1000000) (v1:Value) (w1:World) (h:Below w.heap.size w w1) (h1:IsLf w1 v1 f)=>show Calls Tryz.prog 6 #[v1,.string s] w1 fun e w'=>(∃ y,e = .returned (.tuple #[y,.int .i64 (u:Nat),.nilIface]) ∧ IsCol w' y c) ∧ Below w1.heap.size w1 w' from
  (read_page f v1 s hsz w1 adr ((hE.errs.sub (by decide)).below h) h1 fo).mono fun e w' ⟨a,b⟩=>⟨by rw [hR] at a;exact a,b⟩)
 have HPo0:=Lib.hid (fun (hsz:s.size ≤ 1000000) (w1:World) (h:Below w.heap.size w w1)=>show Calls Tryz.prog 8 #[vf,.string s] w1 fun e w'=>(∃ y,e = .returned (.tuple #[y,.int .i64 (u:Nat),.int .i64 0]) ∧ IsCol w' y c) ∧ Below w1.heap.size w1 w' from
  (rpo_any f vf s hsz w1 (HF.out w1 h) fo).mono fun e w' ⟨a,b⟩=>⟨by rw [hR] at a;exact a,b⟩)
 have HSc:=Lib.hid (fun (v1 v2:Value) (w1:World) (h1:IsCol w1 v1 c) (h2:IsCol w1 v2 c)=>sameCol_same c v1 v2 w1 h1 h2 (by omega) (by omega) hsh.2.2)
 clear hsh
 have HPk0:=fun (hsz:s.size ≤ 1000000) (v1:Value) (w1:World) (h:Below w.heap.size w w1) (h1:IsLf w1 v1 f)=>show Calls Tryz.prog 11 #[v1,.string s] w1 fun e w'=>e = .returned (.tuple #[.agg (stA t),.int .i64 (uk:Nat),.nilIface]) ∧ Below w1.heap.size w1 w' from
  (peek_page f v1 s hsz w1 adr ((hE.errs.sub (by decide)).below h) h1 fo).mono fun e w' ⟨a,b⟩=>⟨by rw [hK] at a;exact a,b⟩
 have HKo0:=fun (hsz:s.size ≤ 1000000) (w1:World) (h:Below w.heap.size w w1)=>show Calls Tryz.prog 12 #[vf,.string s] w1 fun e w'=>e = .returned (.tuple #[.agg (stA t),.int .i64 (uk:Nat),.int .i64 0]) ∧ Below w1.heap.size w1 w' from
  (peo_any f vf s hsz w1 (HF.out w1 h) fo).mono fun e w' ⟨a,b⟩=>⟨by rw [hK] at a;exact a,b⟩
 have he:∀ wx,(binOp .eql 43 (.agg (stA t)) (.agg (stA t))).run Tryz.prog wx = .ok (.bool true) wx:=fun wx=>by rw [eql_st,stEq_self]
 have HST0:=fun w1=>statsOf_any t w1
 simp only [stA] at he HPk0 HKo0 HST0
 have HST:=Lib.hid HST0
 clear HST0
 have He:=Lib.hid he
 obtain ⟨p,rfl,hp⟩:=hf
 obtain ⟨ap,cp,rfl⟩:=hp.form
 unfold maxLen at hs2
 clear hE hp fo hR hK he
 unfold lfA at *
 generalize f.path.length = pn at *
 generalize rightP f = rp at *
 go_enter Tryz.func3,Tryz.ntmps3
 go_wp2_with fail
 refine (H2.out _ ((Below.refl _ _).alloc (Nat.le_refl _) _)).mono ?_;rintro e w1 ⟨rfl,hb1⟩
 obtain ⟨rA,hbw,hz⟩:=rows1 hb1
 have RA:=Lib.hid rA;have Hbw:=Lib.hid hbw
 clear hb1 rA hbw hz
 have cA:=rowc RA.out;have fA:=rowf RA.out
 by_cases hs:s.size ≤ 3000
 case neg =>
  have hs3:(3000:Int) < (s.size:Int):=by omega
  go_wp2_with fail
  go_ret
  exact ⟨rfl,Hbw.out⟩
 have hs3:¬ (3000:Int) < (s.size:Int):=by omega
 by_cases hpn:pn ≤ 100
 case neg =>
  have hpn3:(100:Int) < ((pn:Nat):Int):=by omega
  go_wp2_with fail
  go_ret
  exact ⟨rfl,Hbw.out⟩
 have hpn3:¬ (100:Int) < ((pn:Nat):Int):=by omega
 have HOL:=Lib.hid (HOL0.out hpn)
 have HRd:=Lib.hid (HRd0.out (by omega));have HPo:=Lib.hid (HPo0.out (by omega));have HPk:=Lib.hid (HPk0 (by omega));have HKo:=Lib.hid (HKo0 (by omega))
 clear HOL0 HRd0 HPo0 HPk0 HKo0 hpn hs hs2
 go_wp2_with fail
 refine (HRi.out _ Hbw.out).mono ?_;rintro e9 w2 ⟨rfl,hb9⟩
 clear cA fA
 replace RA:=Lib.hid (row_keep hb9 RA.out);replace Hbw:=Lib.hid (Hbw.out.trans (hb9.mono Hbw.out.size))
 clear hb9
 have cA:=rowc RA.out;have fA:=rowf RA.out
 cases rp with
 | false =>
  go_wp2_with fail
  go_ret
  exact ⟨rfl,Hbw.out⟩
 | true =>
 go_wp2_with fail
 refine (HOL.out _ Hbw.out).mono ?_;rintro e9 w4 ⟨⟨u1,rfl,hu1⟩,hb9⟩
 clear cA fA
 replace RA:=Lib.hid (row_keep hb9 RA.out);replace Hbw:=Lib.hid (Hbw.out.trans (hb9.mono Hbw.out.size))
 clear hb9
 have cA:=rowc RA.out;have fA:=rowf RA.out
 have HU1:=Lib.hid hu1
 clear hu1
 go_wp2_with fail
 refine (HRd.out _ _ Hbw.out HU1.out).mono ?_;rintro e9 w5 ⟨⟨u2,rfl,hu2⟩,hb9⟩
 clear cA fA
 replace RA:=Lib.hid (row_keep hb9 RA.out);replace Hbw:=Lib.hid (Hbw.out.trans (hb9.mono Hbw.out.size))
 clear hb9
 have cA:=rowc RA.out;have fA:=rowf RA.out
 obtain ⟨n1,n2,n3,c1,c2,c3,d1,d2,d3,rfl⟩:=col_form3 hu2
 have HU2:=Lib.hid hu2
 clear hu2 HU1
 go_upto_region 5 with fail
 have hb9:=(Below.refl w5.heap.size w5).alloc (Nat.le_refl _) (.cells #[.int .i64 c.id,.slice d1 n1 c1,.slice d2 n2 c2,.slice d3 n3 c3] 29)
 clear cA fA
 replace RA:=Lib.hid (row_keep hb9 RA.out);replace HU2:=Lib.hid (HU2.out.below hb9 (Nat.le_refl _));replace Hbw:=Lib.hid (Hbw.out.trans (hb9.mono Hbw.out.size))
 have RX:=Lib.hid (heap_alloc_new w5 (.cells #[.int .i64 c.id,.slice d1 n1 c1,.slice d2 n2 c2,.slice d3 n3 c3] 29))
 clear hb9
 generalize w5.alloc (.cells #[.int .i64 c.id,.slice d1 n1 c1,.slice d2 n2 c2,.slice d3 n3 c3] 29) = w6 at *
 generalize w5.heap.size = gX at *
 have cA:=rowc RA.out;have fA:=rowf RA.out;have cX:=rowc RX.out;have fX:=rowf RX.out
 go_wp2_with fail
 refine (HPo.out _ Hbw.out).mono ?_;rintro e9 w7 ⟨⟨u3,rfl,hu3⟩,hb9⟩
 clear cA fA cX fX
 replace RA:=Lib.hid (row_keep hb9 RA.out);replace RX:=Lib.hid (row_keep hb9 RX.out);replace HU2:=Lib.hid (HU2.out.below hb9 (Nat.le_refl _));replace Hbw:=Lib.hid (Hbw.out.trans (hb9.mono Hbw.out.size))
 clear hb9
 have cA:=rowc RA.out;have fA:=rowf RA.out;have cX:=rowc RX.out;have fX:=rowf RX.out
 obtain ⟨m1,m2,m3,k1,k2,k3,e1,e2,e3,rfl⟩:=col_form3 hu3
 have HU3:=Lib.hid hu3
 clear hu3
 go_upto_region 6 with fail
 have hb9:=(Below.refl w7.heap.size w7).alloc (Nat.le_refl _) (.cells #[.int .i64 c.id,.slice e1 m1 k1,.slice e2 m2 k2,.slice e3 m3 k3] 29)
 clear cA fA cX fX
 replace RA:=Lib.hid (row_keep hb9 RA.out);replace RX:=Lib.hid (row_keep hb9 RX.out);replace HU2:=Lib.hid (HU2.out.below hb9 (Nat.le_refl _));replace HU3:=Lib.hid (HU3.out.below hb9 (Nat.le_refl _));replace Hbw:=Lib.hid (Hbw.out.trans (hb9.mono Hbw.out.size))
 have RY:=Lib.hid (heap_alloc_new w7 (.cells #[.int .i64 c.id,.slice e1 m1 k1,.slice e2 m2 k2,.slice e3 m3 k3] 29))
 clear hb9
 generalize w7.alloc (.cells #[.int .i64 c.id,.slice e1 m1 k1,.slice e2 m2 k2,.slice e3 m3 k3] 29) = w8 at *
 generalize w7.heap.size = gY at *
 have cA:=rowc RA.out;have fA:=rowf RA.out;have cX:=rowc RX.out;have fX:=rowf RX.out;have cY:=rowc RY.out;have fY:=rowf RY.out
 go_wp2_with fail
 refine (HSc.out _ _ _ HU2.out HU3.out).mono ?_;rintro e9 wa ⟨rfl,hb9⟩
 clear cA fA cX fX cY fY
 replace RA:=Lib.hid (row_keep hb9 RA.out);replace RX:=Lib.hid (row_keep hb9 RX.out);replace RY:=Lib.hid (row_keep hb9 RY.out);replace Hbw:=Lib.hid (Hbw.out.trans (hb9.mono Hbw.out.size))
 clear hb9
 have cA:=rowc RA.out;have fA:=rowf RA.out;have cX:=rowc RX.out;have fX:=rowf RX.out;have cY:=rowc RY.out;have fY:=rowf RY.out
 clear HU2 HU3
 have he:=He.out
 clear cX fX cY fY RX RY
 go_wp2_with fail
 refine (HOL.out _ Hbw.out).mono ?_;rintro e9 wb ⟨⟨u1,rfl,hu1⟩,hb9⟩
 clear cA fA
 replace RA:=Lib.hid (row_keep hb9 RA.out);replace Hbw:=Lib.hid (Hbw.out.trans (hb9.mono Hbw.out.size))
 clear hb9
 have cA:=rowc RA.out;have fA:=rowf RA.out
 have HU1:=Lib.hid hu1
 clear hu1
 go_wp2_with fail
 refine (HPk.out _ _ Hbw.out HU1.out).mono ?_;rintro e9 wd ⟨rfl,hb9⟩
 clear cA fA
 replace RA:=Lib.hid (row_keep hb9 RA.out);replace Hbw:=Lib.hid (Hbw.out.trans (hb9.mono Hbw.out.size))
 clear hb9
 have cA:=rowc RA.out;have fA:=rowf RA.out
 clear HU1
 go_upto_region 12 with fail
 have hb9:=(Below.refl wd.heap.size wd).alloc (Nat.le_refl _) (.cells #[.int .i64 t.e,.int .i64 t.n,.bool t.has,.int .i64 t.lo.k,.int .i64 t.lo.n,.string t.lo.s,.int .i64 t.hi.k,.int .i64 t.hi.n,.string t.hi.s] 43)
 clear cA fA
 replace RA:=Lib.hid (row_keep hb9 RA.out);replace Hbw:=Lib.hid (Hbw.out.trans (hb9.mono Hbw.out.size))
 have RT:=Lib.hid (heap_alloc_new wd (.cells #[.int .i64 t.e,.int .i64 t.n,.bool t.has,.int .i64 t.lo.k,.int .i64 t.lo.n,.string t.lo.s,.int .i64 t.hi.k,.int .i64 t.hi.n,.string t.hi.s] 43))
 clear hb9
 generalize wd.alloc (.cells #[.int .i64 t.e,.int .i64 t.n,.bool t.has,.int .i64 t.lo.k,.int .i64 t.lo.n,.string t.lo.s,.int .i64 t.hi.k,.int .i64 t.hi.n,.string t.hi.s] 43) = we at *
 generalize wd.heap.size = gT at *
 have cA:=rowc RA.out;have fA:=rowf RA.out;have cT:=rowc RT.out;have fT:=rowf RT.out
 go_wp2_with fail
 refine (HKo.out _ Hbw.out).mono ?_;rintro e9 wf ⟨rfl,hb9⟩
 clear cA fA cT fT
 replace RA:=Lib.hid (row_keep hb9 RA.out);replace RT:=Lib.hid (row_keep hb9 RT.out);replace Hbw:=Lib.hid (Hbw.out.trans (hb9.mono Hbw.out.size))
 clear hb9
 have cA:=rowc RA.out;have fA:=rowf RA.out;have cT:=rowc RT.out;have fT:=rowf RT.out
 go_upto_region 15 with fail
 have hb9:=(Below.refl wf.heap.size wf).alloc (Nat.le_refl _) (.cells #[.int .i64 t.e,.int .i64 t.n,.bool t.has,.int .i64 t.lo.k,.int .i64 t.lo.n,.string t.lo.s,.int .i64 t.hi.k,.int .i64 t.hi.n,.string t.hi.s] 46)
 clear cA fA cT fT
 replace RA:=Lib.hid (row_keep hb9 RA.out);replace RT:=Lib.hid (row_keep hb9 RT.out);replace Hbw:=Lib.hid (Hbw.out.trans (hb9.mono Hbw.out.size))
 have RU:=Lib.hid (heap_alloc_new wf (.cells #[.int .i64 t.e,.int .i64 t.n,.bool t.has,.int .i64 t.lo.k,.int .i64 t.lo.n,.string t.lo.s,.int .i64 t.hi.k,.int .i64 t.hi.n,.string t.hi.s] 46))
 clear hb9
 generalize wf.alloc (.cells #[.int .i64 t.e,.int .i64 t.n,.bool t.has,.int .i64 t.lo.k,.int .i64 t.lo.n,.string t.lo.s,.int .i64 t.hi.k,.int .i64 t.hi.n,.string t.hi.s] 46) = wg at *
 generalize wf.heap.size = gU at *
 have cA:=rowc RA.out;have fA:=rowf RA.out;have cT:=rowc RT.out;have fT:=rowf RT.out;have cU:=rowc RU.out;have fU:=rowf RU.out
 have HB:=Lib.hid (Below.refl wg.heap.size wg)
 go_region_held3 (fun w'=>(∀ j,w'.cell? ⟨gT,j,none⟩ = (#[.int .i64 t.e,.int .i64 t.n,.bool t.has,.int .i64 t.lo.k,.int .i64 t.lo.n,.string t.lo.s,.int .i64 t.hi.k,.int .i64 t.hi.n,.string t.hi.s]:Array Value)[j]?) ∧ (∀ j,w'.cell? ⟨gU,j,none⟩ = (#[.int .i64 t.e,.int .i64 t.n,.bool t.has,.int .i64 t.lo.k,.int .i64 t.lo.n,.string t.lo.s,.int .i64 t.hi.k,.int .i64 t.hi.n,.string t.hi.s]:Array Value)[j]?)) (first | (with_reducible exact ⟨rowc RT.out,rowc RU.out⟩) | (with_reducible exact ⟨rowc_drew RT.out,rowc_drew RU.out⟩))
  (first
  | (go_at_call 13;(with_reducible refine (HST.out _).mono ?_);rintro e w9 ⟨rfl,hb9⟩;(first | (with_reducible have hbs:=drew_first hb9) | (have hbs:=hb9));replace RT:=Lib.hid (row_keep hbs RT.out);replace RU:=Lib.hid (row_keep hbs RU.out);replace HB:=Lib.hid (HB.out.trans (hbs.mono HB.out.size));clear hb9 hbs))
 all_goals (go_wp2_with fail;go_ret;exact ⟨rfl,Hbw.out.trans (HB.out.mono Hbw.out.size)⟩)
theorem pageReads_law {w:World} (vf:Value) (f:Lf) (hf:IsLf w vf f) (fo:f.Ok) (s:ByteArray) (hs:s.size ≤ maxLen) (hL:laidMetH Tryz.prog Rows.pageReadsRow.laid w) :
  Calls Tryz.prog 3 #[vf,.string s] w fun e w'=>e = .returned (.bool true) ∧ Below w.heap.size w w':=by
 have hL':laidMetH Tryz.prog fullLaid w:=hL
 obtain ⟨adr,hE⟩:=env_of_laid hL'
 cases hR:pageR f s.data.toList with
 | inl k =>
  cases hK:peekR f s.data.toList with
  | inl j=>exact pr_bb f s hs vf w adr hE hf fo k hR j hK
  | inr y=>exact pr_bg f s hs vf w adr hE hf fo k hR y.1 y.2 hK
 | inr x =>
  cases hK:peekR f s.data.toList with
  | inl j=>exact pr_gb f s hs vf w adr hE hf fo x.1 x.2 hR j hK
  | inr y=>exact pr_gg f s hs vf w adr hE hf fo x.1 x.2 hR y.1 y.2 hK
end Go.Proofs.YtapiabmmfmfaeaaGreatDoor
