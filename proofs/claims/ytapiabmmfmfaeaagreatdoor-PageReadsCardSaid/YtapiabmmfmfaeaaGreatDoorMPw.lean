/- Merged texts: RegC, Pg2, Pg4, Pg5. -/
import Derived.Test.YtapiabmmfmfaeaaGreatDoorMPlain
import Derived.Deep.AppendLies
import Derived.Test.YtapiabmmfmfaeaaGreatDoorMPp
import Derived.Test.YtapiabmmfmfaeaaGreatDoorMWire
import Derived.Test.YtapiabmmfmfaeaaGreatDoorMBits
import Derived.Deep.RegionHeld3
import Derived.Deep.DeepCutAuto
import Derived.Test.YtapiabmmfmfaeaaGreatDoorMKnown
/- string([]byte{b}) at a step of a region that draws its order; over any program. -/
namespace Go.Proofs.YtapiabmmfmfaeaaGreatDoor
set_option maxHeartbeats 16000000
set_option linter.unusedVariables false
open Go Go.RowKit
theorem run_byte_string {P:Program} {src dst e:TypeId} (w:World) (b:Nat) (n:Int) (hs:P.underlying src = some (.slice e)) (he:P.underlying e = some (.int .u8)) (hd:P.underlying dst = some .string)
  (h0:0 ≤ n) (h1:n < 256) (hc:w.cell? ⟨b,0,none⟩ = some (.int .u8 n)):(convert src dst (.slice (some ⟨b,0,none⟩) 1 1)).run P w = .ok (.string ⟨#[UInt8.ofNat n.toNat]⟩) w:=by
 refine run_convert_bytes_back w src dst e _ 1 [UInt8.ofNat n.toNat] hs he hd fun j hj=>?_
 simp at hj
 subst hj
 rw [Addr.add_lit,hc]
 simp
 omega
end Go.Proofs.YtapiabmmfmfaeaaGreatDoor
/- The walk of page.Put. -/
namespace Go.Proofs.YtapiabmmfmfaeaaGreatDoor
set_option maxHeartbeats 16000000
set_option linter.unusedVariables false
open Go Go.RowKit Go.ChangeShapes
def CapCol (v:Value):Prop:=∀ i a b d,v = .agg #[i,a,b,d] → Capped a ∧ Capped b
set_option maxRecDepth 100000 in
theorem pagePut_any (f:Lf) (c:Col) (vf vc:Value) (w:World) (adr:Nat → Addr) (hE:ErrsAt w adr [2,4]) (hf:IsLf w vf f) (hc:IsCol w vc c) (hcap:CapCol vc) (fo:f.Ok) (co:c.Ok) (hr:Right f c) (hl:c.rep.length ≤ 1000) (hk1:f.kind = 1) :
  Calls Tryz.prog 35 #[vf,vc] w fun e w'=>e = .returned (.string ⟨(pageB f c).toArray⟩) ∧ Below w.heap.size w w':=by
 have Hk1:=Lib.hid hk1;clear hk1
 obtain ⟨p,rfl,hp⟩:=hf
 obtain ⟨a,b,d,rfl,ha,hb,hd⟩:=hc
 obtain ⟨ca,cb⟩:=hcap _ _ _ _ rfl
 have hl2:c.df.length ≤ 1000:=by rw [← hr.len];exact hl
 have hv:c.vals.length ≤ 1000:=Nat.le_trans hr.vals_le hl
 obtain ⟨z1,z2,z3,z4,z5,z6,z7,z8⟩:=body_len co hr hl
 obtain ⟨ko,k1,k2⟩:=knownSt_ok co hr (by omega)
 have hw1:=lwd_le hr.r0 hr.r40
 have hw2:=lwd_le hr.d0 hr.d40
 obtain ⟨c0,c3⟩:=bestB_fst f.kind c.vals
 have HW1:=Lib.hid (fun w1=>show Calls Tryz.prog 45 #[.int .i64 f.mr] w1 fun e w'=>e = .returned (.int .i64 ((lwd f.mr:Nat):Int)) ∧ w' = w1 from width_any f.mr fo.r0 fo.r1 w1)
 have HW2:=Lib.hid (fun w1=>show Calls Tryz.prog 45 #[.int .i64 f.md] w1 fun e w'=>e = .returned (.int .i64 ((lwd f.md:Nat):Int)) ∧ w' = w1 from width_any f.md fo.d0 fo.d1 w1)
 have HR1:=Lib.hid (fun (w1:World) (h:Below w.heap.size w w1)=>runs_any a (nats c.rep) (lwd f.mr) w1 (by rw [ints_nats _ (fun x hx=>(hr.reps.1 x hx).1)];exact ha.below h (Nat.le_refl _)) ca (by omega) (by rw [nats_len];exact hl) hr.rep_lt)
 have HR2:=Lib.hid (fun (w1:World) (h:Below w.heap.size w w1)=>runs_any b (nats c.df) (lwd f.md) w1 (by rw [ints_nats _ (fun x hx=>(hr.reps.2 x hx).1)];exact hb.below h (Nat.le_refl _)) cb (by omega) (by rw [nats_len];exact hl2) hr.df_lt)
 have HB:=Lib.hid (fun (w1:World) (h:Below w.heap.size w w1)=>best_ok f.kind d c.vals w1 adr (hE.below h) (hd.below h (Nat.le_refl _)) hv co.vals.2 (hr.nil_vals (by omega)) Hk1.out)
 have HK:=Lib.hid (fun (w1:World) (h:Below w.heap.size w w1)=>knownS_any c (.agg (colA c a b d)) w1 ⟨a,b,d,rfl,ha.below h (Nat.le_refl _),hb.below h (Nat.le_refl _),hd.below h (Nat.le_refl _)⟩ co)
 have HT:=Lib.hid (fun (w1:World) (h:Below w.heap.size w w1)=>text_st (knownSt c) ko (by omega) (by omega) w1 adr (hE.below h))
 have hbd:bodyB f c = stText (knownSt c) ++ (textOf (runsB (lwd f.mr) (nats c.rep) []) ++ (textOf (runsB (lwd f.md) (nats c.df) []) ++ (UInt8.ofNat (bestB f.kind c.vals).1.toNat :: textOf (bestB f.kind c.vals).2))):=rfl
 unfold lev at z1 z2
 have HX:=Lib.hid (fun (l:List UInt8) (h:l.length ≤ 1000000) (w1:World)=>show Calls Tryz.prog 70 #[.string ⟨l.toArray⟩] w1 fun e w'=>e = .returned (.string ⟨(textOf l).toArray⟩) ∧ Below w1.heap.size w1 w' from text_any ⟨l.toArray⟩ w1 (by show l.toArray.size ≤ _;simp;omega))
 have HS:=Lib.hid (fun (w1:World)=>show Calls Tryz.prog 39 #[.string ⟨(bodyB f c).toArray⟩] w1 fun e w'=>e = .returned (.int .u32 (crc (bodyB f c):Nat)) ∧ Below w1.heap.size w1 w' from sum_any ⟨(bodyB f c).toArray⟩ w1 (by show (bodyB f c).toArray.size ≤ _;simp;omega))
 have hcr:crc (bodyB f c) < 4294967296:=crc_lt _
 have HF:=Lib.hid (fun (w1:World)=>fixed_ok (crc (bodyB f c)) 4 w1 (by omega) (by decide) (by decide) (by omega))
 have HU:=Lib.hid (fun (w1:World)=>show Calls Tryz.prog 72 #[.int .u64 (((bodyB f c).length:Nat):Int)] w1 fun e w'=>e = .returned (.string ⟨(seven (bodyB f c).length).toArray⟩) ∧ Below w1.heap.size w1 w' from uvarint_any _ w1 (by omega) (by omega))
 have hpg:pageB f c = 80 :: (seven (bodyB f c).length ++ (little 4 (crc (bodyB f c)) ++ bodyB f c)):=rfl
 rw [hpg]
 clear hpg hE hp ha hb hd ca cb fo co hr hl hl2 hv hw1 hw2 ko k1 k2
 unfold lfA colA at *
 generalize lwd f.mr = wd1 at *
 generalize lwd f.md = wd2 at *
 generalize runsB wd1 (nats c.rep) [] = R1 at *
 generalize runsB wd2 (nats c.df) [] = R2 at *
 generalize stText (knownSt c) = S0 at *
 -- WALK
 obtain ⟨SA,hSA⟩:∃ x,stA (knownSt c) = x:=⟨_,rfl⟩
 rw [hSA] at HK HT
 clear hSA
 obtain ⟨cd,hcd⟩:∃ x,(bestB f.kind c.vals).1 = x:=⟨_,rfl⟩
 obtain ⟨V,hV⟩:∃ x,(bestB f.kind c.vals).2 = x:=⟨_,rfl⟩
 rw [hcd] at c0 c3 HB hbd
 rw [hV] at z3 z8 HB hbd
 clear hcd hV
 obtain ⟨BB,hBB⟩:∃ x,bodyB f c = x:=⟨_,rfl⟩
 rw [hBB] at hbd HS HF HU hcr z5 ⊢
 clear hBB
 have HX1:=Lib.hid (fun w1=>HX.out R1 (by omega) w1);have HX2:=Lib.hid (fun w1=>HX.out R2 (by omega) w1);have HX3:=Lib.hid (fun w1=>HX.out V (by omega) w1)
 clear HX
 have Hbd:=Lib.hid hbd
 clear hbd
 generalize textOf R1 = T1 at *
 generalize textOf R2 = T2 at *
 generalize textOf V = T3 at *
 have hw8:IntKind.u8.wrap cd = cd:=by rw [IntKind.wrap_u8];omega
 generalize crc BB = CR at *
 obtain ⟨LL,hLL⟩:∃ x,little 4 CR = x:=⟨_,rfl⟩
 have hL4:LL.length = 4:=by rw [← hLL];exact little_len _ _
 rw [hLL] at HF ⊢
 clear hLL
 obtain ⟨LB,hLB⟩:∃ x,BB.length = x:=⟨_,rfl⟩
 have HLB:=Lib.hid hLB
 rw [hLB] at HU z5 ⊢
 obtain ⟨SV,hSV⟩:∃ x,seven LB = x:=⟨_,rfl⟩
 have hSVl:SV.length ≤ 10:=by rw [← hSV];exact seven_len (by omega)
 rw [hSV] at HU ⊢
 clear hSV hLB
 clear z6 z7 z8
 go_enter Tryz.func35,Tryz.ntmps35
 go_upto_region 1 with fail
 obtain ⟨rF,rC,hbw,hz⟩:=rows2 (w:=w) (A:=.cells #[.int .i64 f.id,.int .i64 f.kind,.int .i64 f.mr,.int .i64 f.md,p] 34) (B:=.cells #[.int .i64 c.id,a,b,d] 29) (Below.refl _ _)
 have RF:=Lib.hid rF;have RC:=Lib.hid rC;have Hbw:=Lib.hid hbw
 clear rF rC hbw hz
 generalize ((w.alloc (.cells #[.int .i64 f.id,.int .i64 f.kind,.int .i64 f.mr,.int .i64 f.md,p] 34)).alloc (.cells #[.int .i64 c.id,a,b,d] 29)) = w0 at *
 have cF:=rowc RF.out;have cC:=rowc RC.out
 go_cut [5,6] (fun s5 s6 wx=>s5 = .string ⟨R1.toArray⟩ ∧ s6 = .nilIface ∧ Below w0.heap.size w0 wx)
 case first =>
  have HB:=Lib.hid (Below.refl w0.heap.size w0)
  go_region_held3 (fun w'=>(∀ j,w'.cell? ⟨w.heap.size,j,none⟩ = (#[.int .i64 f.id,.int .i64 f.kind,.int .i64 f.mr,.int .i64 f.md,p]:Array Value)[j]?) ∧ (∀ j,w'.cell? ⟨w.heap.size + 1,j,none⟩ = (#[.int .i64 c.id,a,b,d]:Array Value)[j]?)) (first | (with_reducible exact ⟨rowc RF.out,rowc RC.out⟩) | (with_reducible exact ⟨rowc_drew RF.out,rowc_drew RC.out⟩) | (with_reducible exact ⟨rowc_alloc RF.out _,rowc_alloc RC.out _⟩) | (with_reducible exact ⟨rowc_alloc_drew RF.out _,rowc_alloc_drew RC.out _⟩))
   (first
   | (go_at_call 45;(with_reducible refine (HW1.out _).mono ?_);rintro e w9 ⟨rfl,rfl⟩)
   | (go_at_call 67;(with_reducible refine (HR1.out _ ?_).mono ?_);(focus (first | (with_reducible exact (Hbw.out.trans (HB.out.mono Hbw.out.size))) | (with_reducible exact (Hbw.out.trans (HB.out.mono Hbw.out.size)).drew) | (with_reducible exact (Hbw.out.trans (HB.out.mono Hbw.out.size)).alloc (Hbw.out.trans (HB.out.mono Hbw.out.size)).size _) | (with_reducible exact ((Hbw.out.trans (HB.out.mono Hbw.out.size)).alloc (Hbw.out.trans (HB.out.mono Hbw.out.size)).size _).drew)));rintro e w9 ⟨rfl,hb9⟩;(first | (with_reducible have hbs:=drew_first hb9) | (have hbs:=hb9));replace RF:=Lib.hid (row_keep hbs RF.out);replace RC:=Lib.hid (row_keep hbs RC.out);replace HB:=Lib.hid (HB.out.trans (hbs.mono HB.out.size));clear hb9 hbs))
  all_goals (go_wp2_with fail;go_meet)
  all_goals (exact ⟨rfl,rfl,HB.out⟩)
 case rest =>
 obtain ⟨rfl,rfl,hbx⟩:=hcut
 obtain ⟨w1,rfl⟩:∃ w1:World,w1 = wc:=⟨_,rfl⟩
 replace RF:=Lib.hid (row_keep hbx RF.out);replace RC:=Lib.hid (row_keep hbx RC.out);replace Hbw:=Lib.hid (Hbw.out.trans (hbx.mono Hbw.out.size))
 clear cF cC hbx
 have cF:=rowc RF.out;have cC:=rowc RC.out
 go_upto_region 2 with fail
 go_cut [7,8] (fun s5 s6 wx=>s5 = .string ⟨R2.toArray⟩ ∧ s6 = .nilIface ∧ Below w1.heap.size w1 wx)
 case first =>
  have HB:=Lib.hid (Below.refl w1.heap.size w1)
  go_region_held3 (fun w'=>(∀ j,w'.cell? ⟨w.heap.size,j,none⟩ = (#[.int .i64 f.id,.int .i64 f.kind,.int .i64 f.mr,.int .i64 f.md,p]:Array Value)[j]?) ∧ (∀ j,w'.cell? ⟨w.heap.size + 1,j,none⟩ = (#[.int .i64 c.id,a,b,d]:Array Value)[j]?)) (first | (with_reducible exact ⟨rowc RF.out,rowc RC.out⟩) | (with_reducible exact ⟨rowc_drew RF.out,rowc_drew RC.out⟩) | (with_reducible exact ⟨rowc_alloc RF.out _,rowc_alloc RC.out _⟩) | (with_reducible exact ⟨rowc_alloc_drew RF.out _,rowc_alloc_drew RC.out _⟩))
   (first
   | (go_at_call 45;(with_reducible refine (HW2.out _).mono ?_);rintro e w9 ⟨rfl,rfl⟩)
   | (go_at_call 67;(with_reducible refine (HR2.out _ ?_).mono ?_);(focus (first | (with_reducible exact (Hbw.out.trans (HB.out.mono Hbw.out.size))) | (with_reducible exact (Hbw.out.trans (HB.out.mono Hbw.out.size)).drew) | (with_reducible exact (Hbw.out.trans (HB.out.mono Hbw.out.size)).alloc (Hbw.out.trans (HB.out.mono Hbw.out.size)).size _) | (with_reducible exact ((Hbw.out.trans (HB.out.mono Hbw.out.size)).alloc (Hbw.out.trans (HB.out.mono Hbw.out.size)).size _).drew)));rintro e w9 ⟨rfl,hb9⟩;(first | (with_reducible have hbs:=drew_first hb9) | (have hbs:=hb9));replace RF:=Lib.hid (row_keep hbs RF.out);replace RC:=Lib.hid (row_keep hbs RC.out);replace HB:=Lib.hid (HB.out.trans (hbs.mono HB.out.size));clear hb9 hbs))
  all_goals (go_wp2_with fail;go_meet)
  all_goals (exact ⟨rfl,rfl,HB.out⟩)
 case rest =>
 obtain ⟨rfl,rfl,hbx⟩:=hcut
 obtain ⟨w2,rfl⟩:∃ w2:World,w2 = wc:=⟨_,rfl⟩
 replace RF:=Lib.hid (row_keep hbx RF.out);replace RC:=Lib.hid (row_keep hbx RC.out);replace Hbw:=Lib.hid (Hbw.out.trans (hbx.mono Hbw.out.size))
 clear cF cC hbx
 have cF:=rowc RF.out;have cC:=rowc RC.out
 go_wp2_with fail
 refine (HB.out _ Hbw.out).mono ?_;rintro e w3 ⟨rfl,hb3⟩
 replace RF:=Lib.hid (row_keep hb3 RF.out);replace RC:=Lib.hid (row_keep hb3 RC.out);replace Hbw:=Lib.hid (Hbw.out.trans (hb3.mono Hbw.out.size))
 clear hb3 cF cC HB
 have cF:=rowc RF.out;have cC:=rowc RC.out
 go_upto_region 4 with fail
 have q1:¬ 9223372036854775807 < S0.length + T1.length:=by omega
 have q2:¬ 9223372036854775807 < S0.length + T1.length + T2.length:=by omega
 have q3:¬ 9223372036854775807 < S0.length + T1.length + T2.length + 1:=by omega
 have q4:¬ 9223372036854775807 < S0.length + T1.length + T2.length + 1 + T3.length:=by omega
 have hcv:∀ (wx:World) (bx:Nat),wx.cell? ⟨bx,0,none⟩ = some (.int .u8 cd) → (convert 129 9 (.slice (some ⟨bx,0,none⟩) 1 1)).run Tryz.prog wx = .ok (.string ⟨#[UInt8.ofNat cd.toNat]⟩) wx:=fun wx bx h=>run_byte_string wx bx cd Tryz.underlying129 Tryz.underlying5 Tryz.underlying9 (by omega) (by omega) h
 go_cut [12] (fun s wx=>s = .string ⟨BB.toArray⟩ ∧ Below w3.heap.size w3 wx)
 case first =>
  have HB:=Lib.hid (Below.refl w3.heap.size w3)
  clear HS HF HU HW1 HW2 HR1 HR2 RF cF hcr HLB hL4 hSVl
  have cCd:=rowc_drew RC.out
  have hltC:w.heap.size + 1 < w3.heap.size:=row_lt RC.out
  have hltD:w.heap.size + 1 < w3.drew.heap.size:=row_lt RC.out
  go_region_with
   (first
   | (go_at_call 22;(with_reducible refine (HK.out _ ?_).mono ?_);(focus (first | (with_reducible exact (Hbw.out.trans (HB.out.mono Hbw.out.size))) | (with_reducible exact (Hbw.out.trans (HB.out.mono Hbw.out.size)).drew) | (with_reducible exact (Hbw.out.trans (HB.out.mono Hbw.out.size)).alloc (Hbw.out.trans (HB.out.mono Hbw.out.size)).size _) | (with_reducible exact ((Hbw.out.trans (HB.out.mono Hbw.out.size)).alloc (Hbw.out.trans (HB.out.mono Hbw.out.size)).size _).drew)));rintro e w9 ⟨rfl,hb9⟩;(first | ((with_reducible have hq:=rows1 hb9);obtain ⟨rG,hbs,hl⟩:=hq;have cG:=rowc rG;have fG:=rowf rG;have RG:=Lib.hid rG;clear rG hl) | ((with_reducible have hq:=rows1d hb9);obtain ⟨rG,hbs,hl⟩:=hq;have cG:=rowc rG;have fG:=rowf rG;have RG:=Lib.hid rG;clear rG hl) | ((with_reducible have hbs:=drew_first hb9);try (replace RG:=Lib.hid (row_keep hbs RG.out);replace cG:=rowc RG.out;replace fG:=rowf RG.out)) | (have hbs:=hb9;try (replace RG:=Lib.hid (row_keep hbs RG.out);replace cG:=rowc RG.out;replace fG:=rowf RG.out)));replace RC:=Lib.hid (row_keep hbs RC.out);replace cC:=rowc RC.out;replace HB:=Lib.hid (HB.out.trans (hbs.mono HB.out.size));clear hb9 hbs)
   | (go_at_call 69;(with_reducible refine (HT.out _ ?_).mono ?_);(focus (first | (with_reducible exact (Hbw.out.trans (HB.out.mono Hbw.out.size))) | (with_reducible exact (Hbw.out.trans (HB.out.mono Hbw.out.size)).drew) | (with_reducible exact (Hbw.out.trans (HB.out.mono Hbw.out.size)).alloc (Hbw.out.trans (HB.out.mono Hbw.out.size)).size _) | (with_reducible exact ((Hbw.out.trans (HB.out.mono Hbw.out.size)).alloc (Hbw.out.trans (HB.out.mono Hbw.out.size)).size _).drew)));rintro e w9 ⟨rfl,hb9⟩;(first | ((with_reducible have hq:=rows1 hb9);obtain ⟨rG,hbs,hl⟩:=hq;have cG:=rowc rG;have fG:=rowf rG;have RG:=Lib.hid rG;clear rG hl) | ((with_reducible have hq:=rows1d hb9);obtain ⟨rG,hbs,hl⟩:=hq;have cG:=rowc rG;have fG:=rowf rG;have RG:=Lib.hid rG;clear rG hl) | ((with_reducible have hbs:=drew_first hb9);try (replace RG:=Lib.hid (row_keep hbs RG.out);replace cG:=rowc RG.out;replace fG:=rowf RG.out)) | (have hbs:=hb9;try (replace RG:=Lib.hid (row_keep hbs RG.out);replace cG:=rowc RG.out;replace fG:=rowf RG.out)));replace RC:=Lib.hid (row_keep hbs RC.out);replace cC:=rowc RC.out;replace HB:=Lib.hid (HB.out.trans (hbs.mono HB.out.size));clear hb9 hbs)
   | (go_at_call 70;(with_reducible refine (HX1.out _).mono ?_);rintro e w9 ⟨rfl,hb9⟩;(first | ((with_reducible have hq:=rows1 hb9);obtain ⟨rG,hbs,hl⟩:=hq;have cG:=rowc rG;have fG:=rowf rG;have RG:=Lib.hid rG;clear rG hl) | ((with_reducible have hq:=rows1d hb9);obtain ⟨rG,hbs,hl⟩:=hq;have cG:=rowc rG;have fG:=rowf rG;have RG:=Lib.hid rG;clear rG hl) | ((with_reducible have hbs:=drew_first hb9);try (replace RG:=Lib.hid (row_keep hbs RG.out);replace cG:=rowc RG.out;replace fG:=rowf RG.out)) | (have hbs:=hb9;try (replace RG:=Lib.hid (row_keep hbs RG.out);replace cG:=rowc RG.out;replace fG:=rowf RG.out)));replace RC:=Lib.hid (row_keep hbs RC.out);replace cC:=rowc RC.out;replace HB:=Lib.hid (HB.out.trans (hbs.mono HB.out.size));clear hb9 hbs)
   | (go_at_call 70;(with_reducible refine (HX2.out _).mono ?_);rintro e w9 ⟨rfl,hb9⟩;(first | ((with_reducible have hq:=rows1 hb9);obtain ⟨rG,hbs,hl⟩:=hq;have cG:=rowc rG;have fG:=rowf rG;have RG:=Lib.hid rG;clear rG hl) | ((with_reducible have hq:=rows1d hb9);obtain ⟨rG,hbs,hl⟩:=hq;have cG:=rowc rG;have fG:=rowf rG;have RG:=Lib.hid rG;clear rG hl) | ((with_reducible have hbs:=drew_first hb9);try (replace RG:=Lib.hid (row_keep hbs RG.out);replace cG:=rowc RG.out;replace fG:=rowf RG.out)) | (have hbs:=hb9;try (replace RG:=Lib.hid (row_keep hbs RG.out);replace cG:=rowc RG.out;replace fG:=rowf RG.out)));replace RC:=Lib.hid (row_keep hbs RC.out);replace cC:=rowc RC.out;replace HB:=Lib.hid (HB.out.trans (hbs.mono HB.out.size));clear hb9 hbs)
   | (go_at_call 70;(with_reducible refine (HX3.out _).mono ?_);rintro e w9 ⟨rfl,hb9⟩;(first | ((with_reducible have hq:=rows1 hb9);obtain ⟨rG,hbs,hl⟩:=hq;have cG:=rowc rG;have fG:=rowf rG;have RG:=Lib.hid rG;clear rG hl) | ((with_reducible have hq:=rows1d hb9);obtain ⟨rG,hbs,hl⟩:=hq;have cG:=rowc rG;have fG:=rowf rG;have RG:=Lib.hid rG;clear rG hl) | ((with_reducible have hbs:=drew_first hb9);try (replace RG:=Lib.hid (row_keep hbs RG.out);replace cG:=rowc RG.out;replace fG:=rowf RG.out)) | (have hbs:=hb9;try (replace RG:=Lib.hid (row_keep hbs RG.out);replace cG:=rowc RG.out;replace fG:=rowf RG.out)));replace RC:=Lib.hid (row_keep hbs RC.out);replace cC:=rowc RC.out;replace HB:=Lib.hid (HB.out.trans (hbs.mono HB.out.size));clear hb9 hbs))
  all_goals (go_wp2_with fail;go_meet)
  all_goals
   refine ⟨congrArg Value.string (?_:(((((⟨S0.toArray⟩:ByteArray) ++ ⟨T1.toArray⟩) ++ ⟨T2.toArray⟩) ++ ⟨([UInt8.ofNat cd.toNat]:List UInt8).toArray⟩) ++ ⟨T3.toArray⟩) = _),?_⟩
   focus (rw [ByteArray.mk_append_mk,ByteArray.mk_append_mk,ByteArray.mk_append_mk,ByteArray.mk_append_mk,Hbd.out];simp)
   focus (first | (with_reducible exact HB.out) | (with_reducible exact HB.out.alloc HB.out.size _))
 case rest =>
 obtain ⟨rfl,hbx⟩:=hcut
 replace Hbw:=Lib.hid (Hbw.out.trans (hbx.mono Hbw.out.size))
 clear hbx RF RC cF cC HK HT HW1 HW2 HR1 HR2 HX1 HX2 HX3 q1 q2 q3 q4 hcv
 have q5:¬ 9223372036854775807 < 1 + SV.length:=by omega
 have q6:¬ 9223372036854775807 < 1 + SV.length + LL.length:=by omega
 have hBl:BB.length ≤ 190000:=by rw [HLB.out];exact z5
 have q7:¬ 9223372036854775807 < 1 + SV.length + LL.length + BB.length:=by omega
 rw [← HLB.out] at HU
 clear HLB z5
 have hu64:IntKind.u64.wrap (BB.length:Int) = (BB.length:Int):=by rw [IntKind.wrap_u64];omega
 go_wp2_with fail
 refine (HS.out _).mono ?_;rintro e w4 ⟨rfl,hb4⟩
 replace Hbw:=Lib.hid (Hbw.out.trans (hb4.mono Hbw.out.size));clear hb4
 go_wp2_with fail
 refine (HF.out _).mono ?_;rintro e w5 ⟨rfl,hb5⟩
 replace Hbw:=Lib.hid (Hbw.out.trans (hb5.mono Hbw.out.size));clear hb5
 go_upto_region 6 with fail
 have hcv:∀ (wx:World) (bx:Nat),wx.cell? ⟨bx,0,none⟩ = some (.int .u8 80) → (convert 129 9 (.slice (some ⟨bx,0,none⟩) 1 1)).run Tryz.prog wx = .ok (.string ⟨#[80]⟩) wx:=fun wx bx h=>run_byte_string wx bx 80 Tryz.underlying129 Tryz.underlying5 Tryz.underlying9 (by omega) (by omega) h
 have HB:=Lib.hid (Below.refl w5.heap.size w5)
 clear HS HF
 go_region_with
  (first
  | (go_at_call 72;(with_reducible refine (HU.out _).mono ?_);rintro e w9 ⟨rfl,hb9⟩;(first | ((with_reducible have hq:=rows1 hb9);obtain ⟨rG,hbs,hl⟩:=hq;have cG:=rowc rG;have fG:=rowf rG;have RG:=Lib.hid rG;clear rG hl) | ((with_reducible have hq:=rows1d hb9);obtain ⟨rG,hbs,hl⟩:=hq;have cG:=rowc rG;have fG:=rowf rG;have RG:=Lib.hid rG;clear rG hl) | ((with_reducible have hbs:=drew_first hb9);try (replace RG:=Lib.hid (row_keep hbs RG.out);replace cG:=rowc RG.out;replace fG:=rowf RG.out)) | (have hbs:=hb9;try (replace RG:=Lib.hid (row_keep hbs RG.out);replace cG:=rowc RG.out;replace fG:=rowf RG.out)));replace HB:=Lib.hid (HB.out.trans (hbs.mono HB.out.size));clear hb9 hbs))
 all_goals go_wp2_with fail
 all_goals go_ret
 all_goals
  refine ⟨ret_of (congrArg Value.string (?_:((((⟨([80]:List UInt8).toArray⟩:ByteArray) ++ ⟨SV.toArray⟩) ++ ⟨LL.toArray⟩) ++ ⟨BB.toArray⟩) = _)),?_⟩
  focus (rw [ByteArray.mk_append_mk,ByteArray.mk_append_mk,ByteArray.mk_append_mk];simp)
  focus (first | exact Hbw.out.trans (HB.out.mono Hbw.out.size) | exact (Hbw.out.trans (HB.out.mono Hbw.out.size)).alloc (Hbw.out.trans (HB.out.mono Hbw.out.size)).size _)
end Go.Proofs.YtapiabmmfmfaeaaGreatDoor
/- The walk of page.Write. -/
namespace Go.Proofs.YtapiabmmfmfaeaaGreatDoor
set_option maxHeartbeats 16000000
set_option linter.unusedVariables false
open Go Go.RowKit Go.ChangeShapes
set_option maxRecDepth 100000 in
theorem write_ok (f:Lf) (c:Col) (vf vc:Value) (w:World) (adr:Nat → Addr) (hE:ErrsAt w adr [2,3,4]) (hf:IsLf w vf f) (hc:IsCol w vc c) (hcap:CapCol vc) (fo:f.Ok) (co:c.Ok) (hn:colErr f c false = .nil) (h0:c.rep ≠ []) (hl:c.rep.length ≤ 1000) (hk1:f.kind = 1) :
  Calls Tryz.prog 14 #[vf,vc] w fun e w'=>e = .returned (.tuple #[.string ⟨(pageB f c).toArray⟩,.nilIface]) ∧ Below w.heap.size w w':=by
 have Hk1:=Lib.hid hk1;clear hk1
 obtain ⟨p,rfl,hp⟩:=hf
 obtain ⟨a,b,d,rfl,ha,hb,hd⟩:=hc
 have HE:=Lib.hid hE;have Hp:=Lib.hid hp;have Ha:=Lib.hid ha;have Hb:=Lib.hid hb;have Hd:=Lib.hid hd;have HN:=Lib.hid hn
 have HK:=Lib.hid (fun (w1:World) (h:Below w.heap.size w w1)=>ck_any f c false (.agg (lfA f p)) (.agg (colA c a b d)) w1 adr ((HE.out.sub (by decide)).below h) ⟨p,rfl,Hp.out.below h (Nat.le_refl _)⟩ ⟨a,b,d,rfl,Ha.out.below h (Nat.le_refl _),Hb.out.below h (Nat.le_refl _),Hd.out.below h (Nat.le_refl _)⟩ fo co)
 have HPt:=Lib.hid (fun (w1:World) (h:Below w.heap.size w w1)=>pagePut_any f c (.agg (lfA f p)) (.agg (colA c a b d)) w1 adr ((HE.out.sub (by decide)).below h) ⟨p,rfl,Hp.out.below h (Nat.le_refl _)⟩ ⟨a,b,d,rfl,Ha.out.below h (Nat.le_refl _),Hb.out.below h (Nat.le_refl _),Hd.out.below h (Nat.le_refl _)⟩ hcap fo co (right_of hn).1 hl Hk1.out)
 obtain ⟨a1,q1,rfl⟩:=ha.form
 have hpos:0 < c.rep.length:=List.length_pos_iff.2 h0
 have hp0:((c.rep.length:Int) == 0) = false:=by rw [beq_eq_false_iff_ne];omega
 have hp1:¬ (20000:Int) < (c.rep.length:Int):=by omega
 clear hE hp ha hb hd hn hcap h0
 unfold lfA colA at HK HPt
 unfold lfA colA
 generalize c.rep.length = n at *
 go_enter Tryz.func14,Tryz.ntmps14
 go_wp2_with fail
 refine (HK.out _ (((Below.refl _ _).alloc (Nat.le_refl _) _).alloc (by simp) _)).mono ?_;rintro e w1 ⟨⟨u,rfl,hu⟩,hb1⟩
 rw [HN.out] at hu
 obtain rfl:u = .nilIface:=hu
 obtain ⟨rA,rB,hbw,hz⟩:=rows2 hb1
 have cA:=rowc rA;have cB:=rowc rB;have Hbw:=Lib.hid hbw
 clear hb1 rA rB hbw
 go_wp2_with fail
 refine (HPt.out _ Hbw.out).mono ?_;rintro e w2 ⟨rfl,hb2⟩
 replace Hbw:=Lib.hid (Hbw.out.trans (hb2.mono Hbw.out.size))
 clear hb2 cA cB
 go_wp2_with fail
 go_ret2
 exact ⟨rfl,Hbw.out⟩
end Go.Proofs.YtapiabmmfmfaeaaGreatDoor
/- The closed fact byte80 of the statements of chapter 10; who may be packed. -/
namespace Go.Proofs.YtapiabmmfmfaeaaGreatDoor
set_option maxHeartbeats 16000000
set_option linter.unusedVariables false
open Go Go.RowKit Go.ChangeShapes
def f80:Lf:=⟨1,1,0,0,[]⟩
def c80:Col:=⟨1,[0],[0],[⟨1,1,⟨#[]⟩⟩]⟩
theorem err80:colErr f80 c80 false = .nil:=by kernel_rfl
theorem fo80:f80.Ok:=⟨by decide,by decide,by decide,by decide,by decide,by decide,by decide,by decide,by simp [f80,Fits]⟩
theorem co80:c80.Ok:=⟨by decide,by decide,⟨by decide,by simp [c80]⟩,⟨by decide,by simp [c80]⟩,by decide,by
 intro x hx
 simp only [c80,List.mem_cons,List.not_mem_nil,or_false] at hx
 subst hx
 exact ⟨by decide,by decide,by decide,by decide,by decide⟩⟩
theorem page_head (f:Lf) (c:Col):∃ x y z u v l,pageB f c = 80 :: x :: y :: z :: u :: v :: l:=by
 have h1:1 ≤ (seven (bodyB f c).length).length:=by
  unfold seven
  split <;> simp
 have h4:(little 4 (crc (bodyB f c))).length = 4:=little_len _ _
 have hp:pageB f c = 80 :: (seven (bodyB f c).length ++ (little 4 (crc (bodyB f c)) ++ bodyB f c)):=rfl
 have hl:5 ≤ (seven (bodyB f c).length ++ (little 4 (crc (bodyB f c)) ++ bodyB f c)).length:=by
  rw [List.length_append,List.length_append];omega
 rw [hp]
 generalize seven (bodyB f c).length ++ (little 4 (crc (bodyB f c)) ++ bodyB f c) = L at *
 match L,hl with
 | x :: y :: z :: u :: v :: l,_=>exact ⟨x,y,z,u,v,l,rfl⟩
theorem capCol_lit {i a b d:Value} (ha:Capped a) (hb:Capped b):CapCol (.agg #[i,a,b,d]):=by
 intro i' a' b' d' h
 simp only [Value.agg.injEq,Array.mk.injEq,List.cons.injEq,and_true] at h
 obtain ⟨-,rfl,rfl,-⟩:=h
 exact ⟨ha,hb⟩
theorem capped_lit {ad:Option Addr} {n cap:Nat} (h:n ≤ cap):Capped (.slice ad n cap):=by
 intro ad' n' cap' e
 injection e with _ e1 e2
 omega
set_option maxRecDepth 100000 in
theorem byte80_any (w:World) (adr:Nat → Addr) (hE:ErrsAt w adr [2,3,4]):Calls Tryz.prog 4 #[] w fun e w'=>e = .returned (.bool true) ∧ Below w.heap.size w w':=by
 have HE:=Lib.hid hE
 clear hE
 obtain ⟨x,y,z,u,v,l,hl⟩:=page_head f80 c80
 have Hl:=Lib.hid hl
 clear hl
 go_enter Tryz.func4,Tryz.ntmps4
 go_upto_region 2 with fail
 obtain ⟨rF,hbw,hz⟩:=rows1 (w:=w) (A:=.cells #[.int .i64 1,.int .i64 1,.int .i64 0,.int .i64 0,.slice none 0 0] 34) (Below.refl _ _)
 have cF:=rowc rF
 have Hbw:=Lib.hid hbw
 clear rF hbw hz
 generalize w.alloc (.cells #[.int .i64 1,.int .i64 1,.int .i64 0,.int .i64 0,.slice none 0 0] 34) = w0 at *
 go_wp2_with fail
 have hW:=(((Below.refl w0.heap.size w0).alloc (Nat.le_refl _) (.cells #[.int .i64 0] 3)).alloc (by simp) (.cells #[.int .i64 0] 3)).alloc (by simp;omega) (.cells #[.int .i64 1,.int .i64 1,.string ⟨#[]⟩] 41)
 obtain ⟨r1,r2,r3,_,_⟩:=rows3 (w:=w0) (A:=.cells #[.int .i64 0] 3) (B:=.cells #[.int .i64 0] 3) (C:=.cells #[.int .i64 1,.int .i64 1,.string ⟨#[]⟩] 41) (Below.refl _ _)
 have hW2:=Hbw.out.trans (hW.mono Hbw.out.size)
 have HC:=Lib.hid (write_ok f80 c80 _ _ _ adr (HE.out.below hW2) ⟨.slice none 0 0,rfl,.inl ⟨rfl,none,0,rfl⟩⟩ ⟨_,_,_,rfl,isInts_row [0] _ _ _ r1,isInts_row [0] _ _ _ r2,isVals_row [⟨1,1,⟨#[]⟩⟩] _ _ _ r3⟩ (capCol_lit (capped_lit (Nat.le_refl _)) (capped_lit (Nat.le_refl _))) fo80 co80 err80 (by simp [c80]) (by simp [c80]) rfl)
 have HW:=Lib.hid hW2
 clear r1 r2 r3 hW hW2
 refine HC.out.mono ?_;rintro e w1 ⟨rfl,hb1⟩
 rw [Hl.out]
 have Hb1:=Lib.hid (HW.out.trans (hb1.mono HW.out.size))
 clear hb1
 go_wp2_with fail
 go_ret
 exact ⟨rfl,Hb1.out⟩
def rightP (f:Lf):Bool:=decide (0 ≤ f.mr ∧ f.mr ≤ 100 ∧ 0 ≤ f.md ∧ f.md ≤ 100)
set_option maxRecDepth 100000 in
theorem rightP_any (f:Lf) (vf:Value) (w:World) (hf:IsLf w vf f) :
  Calls Tryz.prog 5 #[vf] w fun e w'=>e = .returned (.bool (rightP f)) ∧ Below w.heap.size w w':=by
 obtain ⟨p,rfl,-⟩:=hf
 obtain ⟨id,k,mr,md,pp⟩:=f
 unfold lfA rightP
 simp only
 by_cases r0:0 ≤ mr
 ·by_cases r1:mr ≤ 100
  ·by_cases d0:0 ≤ md
   ·by_cases d1:md ≤ 100
    ·rw [decide_eq_true (show 0 ≤ mr ∧ mr ≤ 100 ∧ 0 ≤ md ∧ md ≤ 100 from ⟨r0,r1,d0,d1⟩)]
     go_enter Tryz.func5,Tryz.ntmps5
     go_wp2
     go_ret
     exact ⟨ret_of (by simp),(Below.refl _ _).alloc (Nat.le_refl _) _⟩
    ·rw [decide_eq_false (show ¬ (0 ≤ mr ∧ mr ≤ 100 ∧ 0 ≤ md ∧ md ≤ 100) from fun h=>d1 h.2.2.2)]
     go_enter Tryz.func5,Tryz.ntmps5
     go_wp2
     go_ret
     exact ⟨ret_of (by simp),(Below.refl _ _).alloc (Nat.le_refl _) _⟩
   ·rw [decide_eq_false (show ¬ (0 ≤ mr ∧ mr ≤ 100 ∧ 0 ≤ md ∧ md ≤ 100) from fun h=>d0 h.2.2.1)]
    go_enter Tryz.func5,Tryz.ntmps5
    go_wp2
    go_ret
    exact ⟨ret_of (by simp),(Below.refl _ _).alloc (Nat.le_refl _) _⟩
  ·rw [decide_eq_false (show ¬ (0 ≤ mr ∧ mr ≤ 100 ∧ 0 ≤ md ∧ md ≤ 100) from fun h=>r1 h.2.1)]
   go_enter Tryz.func5,Tryz.ntmps5
   go_wp2
   go_ret
   exact ⟨ret_of (by simp),(Below.refl _ _).alloc (Nat.le_refl _) _⟩
 ·rw [decide_eq_false (show ¬ (0 ≤ mr ∧ mr ≤ 100 ∧ 0 ≤ md ∧ md ≤ 100) from fun h=>r0 h.1)]
  go_enter Tryz.func5,Tryz.ntmps5
  go_wp2
  go_ret
  exact ⟨ret_of (by simp),(Below.refl _ _).alloc (Nat.le_refl _) _⟩
end Go.Proofs.YtapiabmmfmfaeaaGreatDoor
