/- Merged texts: Bnd1, BestC, Tx1, Jn0, Pg1. -/
import Derived.Test.YtapiabmmfmfaeaaGreatDoorMKnown
import Derived.Test.YtapiabmmfmfaeaaGreatDoorMHow
import Derived.Test.YtapiabmmfmfaeaaGreatDoorMBest
import Derived.Test.YtapiabmmfmfaeaaGreatDoorMOw
import Derived.Test.YtapiabmmfmfaeaaGreatDoorMWire
import Derived.Deep.RegionHeld3
import Derived.Test.YtapiabmmfmfaeaaGreatDoorMRw
import Derived.Test.YtapiabmmfmfaeaaGreatDoorMRuns
import Derived.Test.YtapiabmmfmfaeaaGreatDoorMSum
/- Columns joined: plain Lean; what is known of them. -/
namespace Go.Proofs.YtapiabmmfmfaeaaGreatDoor
set_option maxHeartbeats 8000000
set_option linter.unusedVariables false
open Go Go.RowKit
theorem colErr_nil {f:Lf} {c:Col} {free:Bool}:colErr f c free = .nil ↔ shapeB f c free = true ∧ ∀ x ∈ c.vals,OkP f.kind x:=by
 unfold colErr
 constructor
 ·intro h
  split at h
  ·rename_i hs
   refine ⟨hs,(badAt_none f.kind c.vals 0).1 ?_⟩
   split at h
   ·assumption
   ·cases h
  ·cases h
 ·rintro ⟨h1,h2⟩
  rw [if_pos h1,(badAt_none f.kind c.vals 0).2 h2]
structure Right (f:Lf) (c:Col):Prop where
 k1:1 ≤ f.kind
 k5:f.kind ≤ 5
 r0:0 ≤ f.mr
 r40:f.mr ≤ 40
 d0:0 ≤ f.md
 d40:f.md ≤ 40
 id:f.id = c.id
 len:c.rep.length = c.df.length
 lev:levelsB f c.rep c.df = true
 many:many f.md c.df = c.vals.length
 vals:∀ x ∈ c.vals,OkP f.kind x
theorem right_of {f:Lf} {c:Col} {free:Bool} (h:colErr f c free = .nil):Right f c ∧ (free || (c.rep.head?.getD 0 == 0)) = true:=by
 obtain ⟨h1,h2⟩:=colErr_nil.1 h
 unfold shapeB headB rightB at h1
 simp only [Bool.and_eq_true,decide_eq_true_iff] at h1
 obtain ⟨⟨⟨a1,a2,a3,a4,a5,a6⟩,b,c',d⟩,e,g⟩:=h1
 exact ⟨⟨a1,a2,a3,a4,a5,a6,b,c',e,g,h2⟩,d⟩
theorem Right.nil {f:Lf} {c:Col} {free:Bool} (h:Right f c) (hf:(free || (c.rep.head?.getD 0 == 0)) = true):colErr f c free = .nil:=by
 refine colErr_nil.2 ⟨?_,h.vals⟩
 unfold shapeB headB rightB
 simp only [Bool.and_eq_true,decide_eq_true_iff]
 exact ⟨⟨⟨h.k1,h.k5,h.r0,h.r40,h.d0,h.d40⟩,h.id,h.len,hf⟩,h.lev,h.many⟩
end Go.Proofs.YtapiabmmfmfaeaaGreatDoor
/- Which way is the best one: plain Lean. -/
namespace Go.Proofs.YtapiabmmfmfaeaaGreatDoor
set_option maxHeartbeats 8000000
set_option linter.unusedVariables false
open Go Go.RowKit Go.ChangeShapes
theorem tryS_le (a:Int × List UInt8) (k:Int) (t:List UInt8):(tryS a k t).2.length ≤ t.length:=by
 unfold tryS;split
 ·exact Nat.le_refl _
 ·rename_i h;exact Nat.le_of_not_lt h
theorem bestB_le (kind:Int) (l:List Val):(bestB kind l).2.length ≤ (plainB kind l).length ∧ (bestB kind l).2.length ≤ (dictB kind l).length ∧ (kind = 2 ∨ kind = 3 → (bestB kind l).2.length ≤ (deltaB (numsI l)).length):=by
 have a1:(best1 kind l).2.length ≤ (plainB kind l).length:=tryS_len (0,plainB kind l) 1 _
 have a2:(best1 kind l).2.length ≤ (dictB kind l).length:=tryS_le _ _ _
 have b1:(best2 kind l).2.length ≤ (best1 kind l).2.length:=by
  unfold best2;split
  ·exact tryS_len _ _ _
  ·exact Nat.le_refl _
 have b2:(kind = 2 ∨ kind = 3) → (best2 kind l).2.length ≤ (deltaB (numsI l)).length:=fun hk=>by
  unfold best2;rw [if_pos hk];exact tryS_le _ _ _
 have c1:(bestB kind l).2.length ≤ (best2 kind l).2.length:=by
  unfold bestB;split
  ·exact tryS_len _ _ _
  ·exact Nat.le_refl _
 exact ⟨by omega,by omega,fun hk=>by have:=b2 hk;omega⟩
end Go.Proofs.YtapiabmmfmfaeaaGreatDoor
/- The text of what is known: plain Lean; the walks of stats.one and stats.Text. -/
namespace Go.Proofs.YtapiabmmfmfaeaaGreatDoor
set_option maxHeartbeats 8000000
set_option linter.unusedVariables false
open Go Go.RowKit Go.ChangeShapes
theorem isV_iff1 (k:Int) (x:Val):isV k x = true ↔ OkP k x ∧ 1 ≤ k ∧ k ≤ 5:=by
 unfold isV
 rw [Bool.and_eq_true,decide_eq_true_iff,okB_iff]
 exact ⟨fun ⟨a,b⟩=>⟨b,a.1,a.2⟩,fun ⟨a,b,c⟩=>⟨⟨b,c⟩,a⟩⟩
theorem isV_err (v:Val):isV v.k v = true ↔ valsErr v.k [v] = .nil:=by
 rw [isV_iff1]
 constructor
 ·rintro ⟨h,h1,h5⟩
  unfold valsErr
  rw [if_neg (by omega),if_neg (by simp),(badAt_none v.k [v] 0).2 (by intro x hx;simp at hx;subst hx;exact h)]
 ·intro h
  obtain ⟨h1,h5,_,h4⟩:=valsErr_nil h
  exact ⟨h4 v (by simp),h1,h5⟩
def oneText (v:Val):List UInt8:=textOf (plainB v.k [v])
def stText (s:St):List UInt8:=(seven s.e.toNat ++ seven s.n.toNat) ++ (if (s.has && (isV s.lo.k s.lo && isV s.hi.k s.hi)) = true then 1 :: UInt8.ofNat s.lo.k.toNat :: (oneText s.lo ++ oneText s.hi) else [0])
theorem textOf_length (l:List UInt8) (h:l.length < 18446744073709551616):(textOf l).length ≤ l.length + 10:=by
 unfold textOf
 have:=seven_len (n:=l.length) h
 simp
 omega
theorem plainB_one (v:Val) (hs:v.s.size ≤ 1000000):(plainB v.k [v]).length ≤ v.s.size + 18:=by
 unfold plainB
 split
 ·have:=textOf_length v.s.data.toList (by simp;omega)
  simp [textsB] at this ⊢
  omega
 ·have h2:=wdOf_le v.k
  unfold packed
  rw [bytesOf_len]
  simp [numsOf]
  omega
set_option maxRecDepth 100000 in
theorem one_any (v:Val) (hv:v.Ok) (hs:v.s.size ≤ 1000000) (w:World) (adr:Nat → Addr) (hE:ErrsAt w adr [2,4]) :
  Calls Tryz.prog 108 #[.agg (valA v)] w fun e w'=>(∃ t,e = .returned (.tuple #[.string t,.bool (isV v.k v)]) ∧ (isV v.k v = true → t = ⟨(oneText v).toArray⟩)) ∧ Below w.heap.size w w':=by
 have HE:=Lib.hid hE
 have HO:=Lib.hid (show ∀ y ∈ [v],y.Ok from by intro y hy;simp at hy;subst hy;exact hv)
 clear hv hE
 cases hi:isV v.k v with
 | true =>
  have HN:=Lib.hid ((isV_err v).1 hi)
  have HT:=Lib.hid (fun w1=>text_any ⟨(plainB v.k [v]).toArray⟩ w1 (by have:=plainB_one v hs;show (plainB v.k [v]).toArray.size ≤ _;simp;omega))
  clear hi hs
  unfold valA
  go_enter Tryz.func108,Tryz.ntmps108
  go_upto_region 1 with fail
  obtain ⟨rA,hbw,hz⟩:=rows1 (w:=w) (A:=(.cells #[.int .i64 v.k,.int .i64 v.n,.string v.s] 41)) (Below.refl _ _)
  have cA:=rowc rA
  have Hw0:=Lib.hid hbw;have RA:=Lib.hid rA
  clear rA hbw
  generalize w.alloc (.cells #[.int .i64 v.k,.int .i64 v.n,.string v.s] 41) = w0 at *
  have Hw:=Lib.hid (Hw0.out.alloc Hw0.out.size (.cells #[.int .i64 v.k,.int .i64 v.n,.string v.s] 41))
  go_wp2_with fail
  refine (Plain_ok v.k _ [v] _ adr (HE.out.below Hw.out) (one_vals (Below.refl _ _)) HO.out HN.out).mono ?_;rintro e w1 ⟨rfl,hb1⟩
  replace RA:=Lib.hid (row_keep hb1 ((Lib.alloc_old w0 (.cells #[.int .i64 v.k,.int .i64 v.n,.string v.s] 41) _ (row_lt RA.out)).trans RA.out))
  have Hb1:=Lib.hid (Hw.out.trans (hb1.mono Hw.out.size))
  clear hb1
  go_upto_region 2 with fail
  have HB:=Lib.hid (Below.refl w1.heap.size w1)
  go_region_held3 (fun w'=>∀ j,w'.cell? ⟨w.heap.size,j,none⟩ = (#[.int .i64 v.k,.int .i64 v.n,.string v.s]:Array Value)[j]?) (first | (with_reducible exact rowc RA.out) | (with_reducible exact rowc_drew RA.out))
   (first
   | (go_at_call 70;(with_reducible refine (HT.out _).mono ?_);rintro e w9 ⟨rfl,hb9⟩;(first | (with_reducible have hbs:=drew_first hb9) | (have hbs:=hb9));replace RA:=Lib.hid (row_keep hbs RA.out);replace HB:=Lib.hid (HB.out.trans (hbs.mono HB.out.size));clear hb9 hbs))
  all_goals
   go_wp2_with fail
   go_ret2
   exact ⟨⟨_,rfl,fun _=>rfl⟩,Hb1.out.trans (HB.out.mono Hb1.out.size)⟩
 | false =>
  have HN:=Lib.hid (show valsErr v.k [v] ≠ .nil from fun h=>by rw [(isV_err v).2 h] at hi;cases hi)
  have HT:=Lib.hid (fun w1=>text_any ⟨#[]⟩ w1 (by decide))
  clear hi hs
  unfold valA
  go_enter Tryz.func108,Tryz.ntmps108
  go_upto_region 1 with fail
  obtain ⟨rA,hbw,hz⟩:=rows1 (w:=w) (A:=(.cells #[.int .i64 v.k,.int .i64 v.n,.string v.s] 41)) (Below.refl _ _)
  have cA:=rowc rA
  have Hw0:=Lib.hid hbw;have RA:=Lib.hid rA
  clear rA hbw
  generalize w.alloc (.cells #[.int .i64 v.k,.int .i64 v.n,.string v.s] 41) = w0 at *
  have Hw:=Lib.hid (Hw0.out.alloc Hw0.out.size (.cells #[.int .i64 v.k,.int .i64 v.n,.string v.s] 41))
  go_wp2_with fail
  refine (Plain_err v.k _ [v] _ adr (HE.out.below Hw.out) (one_vals (Below.refl _ _)) HO.out HN.out).mono ?_;rintro e w1 ⟨⟨u,rfl,hu⟩,hb1⟩
  replace RA:=Lib.hid (row_keep hb1 ((Lib.alloc_old w0 (.cells #[.int .i64 v.k,.int .i64 v.n,.string v.s] 41) _ (row_lt RA.out)).trans RA.out))
  have Hb1:=Lib.hid (Hw.out.trans (hb1.mono Hw.out.size))
  obtain ⟨T,ad,rfl,hT⟩:=hu.some' HN.out
  clear hb1 hu
  rcases hT with rfl | rfl
  all_goals
   go_upto_region 2 with fail
   have HB:=Lib.hid (Below.refl w1.heap.size w1)
   go_region_held3 (fun w'=>∀ j,w'.cell? ⟨w.heap.size,j,none⟩ = (#[.int .i64 v.k,.int .i64 v.n,.string v.s]:Array Value)[j]?) (first | (with_reducible exact rowc RA.out) | (with_reducible exact rowc_drew RA.out))
    (first
    | (go_at_call 70;(with_reducible refine (HT.out _).mono ?_);rintro e w9 ⟨rfl,hb9⟩;(first | (with_reducible have hbs:=drew_first hb9) | (have hbs:=hb9));replace RA:=Lib.hid (row_keep hbs RA.out);replace HB:=Lib.hid (HB.out.trans (hbs.mono HB.out.size));clear hb9 hbs))
   all_goals
    go_wp2_with fail
    go_ret2
    exact ⟨⟨_,rfl,fun h=>by cases h⟩,Hb1.out.trans (HB.out.mono Hb1.out.size)⟩
set_option maxRecDepth 100000 in
theorem text_st (a:St) (ha:a.Ok) (h1:a.lo.s.size ≤ 1000000) (h2:a.hi.s.size ≤ 1000000) (w:World) (adr:Nat → Addr) (hE:ErrsAt w adr [2,4]) :
  Calls Tryz.prog 69 #[.agg (stA a)] w fun e w'=>e = .returned (.string ⟨(stText a).toArray⟩) ∧ Below w.heap.size w w':=by
 have H1:=Lib.hid (fun (w1:World) (h:Below w.heap.size w w1)=>one_any a.lo ha.lo h1 w1 adr (hE.below h))
 have H2:=Lib.hid (fun (w1:World) (h:Below w.heap.size w w1)=>one_any a.hi ha.hi h2 w1 adr (hE.below h))
 have HU:=Lib.hid (fun (n:Int) (h:-9223372036854775808 ≤ n ∧ n < 9223372036854775808) (w1:World)=>show Calls Tryz.prog 72 #[.int .u64 (IntKind.u64.wrap (max 0 n))] w1 fun e w'=>e = .returned (.string ⟨(seven n.toNat).toArray⟩) ∧ Below w1.heap.size w1 w' from by rw [show IntKind.u64.wrap (max 0 n) = max 0 n from by rw [IntKind.wrap_u64];omega];exact (uvarint_any (max 0 n) w1 (by omega) (by omega)).mono fun e w' h=>(by rw [show (max 0 n).toNat = n.toNat by omega] at h;exact h))
 have hbe:-9223372036854775808 ≤ a.e ∧ a.e < 9223372036854775808:=⟨ha.e0,ha.e1⟩
 have hbn:-9223372036854775808 ≤ a.n ∧ a.n < 9223372036854775808:=⟨ha.n0,ha.n1⟩
 have hst:stText a = (seven a.e.toNat ++ seven a.n.toNat) ++ (if (a.has && (isV a.lo.k a.lo && isV a.hi.k a.hi)) = true then 1 :: UInt8.ofNat a.lo.k.toNat :: (oneText a.lo ++ oneText a.hi) else [0]):=rfl
 have hk:isV a.lo.k a.lo = true → 1 ≤ a.lo.k ∧ a.lo.k ≤ 5:=fun h=>((isV_iff1 _ _).1 h).2
 have hz1:(oneText a.lo).length ≤ 2000000:=by
  have:=plainB_one a.lo h1
  have:=textOf_length (plainB a.lo.k [a.lo]) (by omega)
  unfold oneText;omega
 have hz2:(oneText a.hi).length ≤ 2000000:=by
  have:=plainB_one a.hi h2
  have:=textOf_length (plainB a.hi.k [a.hi]) (by omega)
  unfold oneText;omega
 have hz3:(seven a.e.toNat).length ≤ 10:=seven_len (by omega)
 have hz4:(seven a.n.toNat).length ≤ 10:=seven_len (by omega)
 rw [hst]
 clear hst ha hE h1 h2
 obtain ⟨ae,an,ah,al,aH⟩:=a
 simp only at hbe hbn hk hz1 hz2 hz3 hz4 H1 H2 ⊢
 simp only [stA]
 unfold valA at H1 H2
 generalize isV al.k al = il at *
 generalize isV aH.k aH = iH at *
 generalize oneText al = A1 at *
 generalize oneText aH = A2 at *
 have hL:(seven ae.toNat ++ seven an.toNat).length ≤ 20:=by rw [List.length_append];omega
 obtain ⟨L,hLe⟩:∃ L,seven ae.toNat ++ seven an.toNat = L:=⟨_,rfl⟩
 have HLe:=Lib.hid hLe
 rw [hLe] at hL ⊢
 clear hLe
 go_enter Tryz.func69,Tryz.ntmps69
 go_upto_region 1 with fail
 obtain ⟨rA,hbw,hz⟩:=rows1 (w:=w) (A:=.cells #[.int .i64 ae,.int .i64 an,.bool ah,.int .i64 al.k,.int .i64 al.n,.string al.s,.int .i64 aH.k,.int .i64 aH.n,.string aH.s] 43) (Below.refl _ _)
 have RA:=Lib.hid rA;have Hbw:=Lib.hid hbw
 have cA:=rowc rA
 clear rA hbw hz
 generalize w.alloc (.cells #[.int .i64 ae,.int .i64 an,.bool ah,.int .i64 al.k,.int .i64 al.n,.string al.s,.int .i64 aH.k,.int .i64 aH.n,.string aH.s] 43) = w0 at *
 go_cut [3] (fun s wx=>s = .string ⟨L.toArray⟩ ∧ Below w0.heap.size w0 wx)
 case first =>
  have HB:=Lib.hid (Below.refl w0.heap.size w0)
  have hq1:¬ 9223372036854775807 < (seven ae.toNat).length + (seven an.toNat).length:=by omega
  go_region_held3 (fun w'=>∀ j,w'.cell? ⟨w.heap.size,j,none⟩ = (#[.int .i64 ae,.int .i64 an,.bool ah,.int .i64 al.k,.int .i64 al.n,.string al.s,.int .i64 aH.k,.int .i64 aH.n,.string aH.s]:Array Value)[j]?) (first | (with_reducible exact rowc RA.out) | (with_reducible exact rowc_drew RA.out))
   (first
   | (go_at_call 72;(with_reducible refine (HU.out ae hbe _).mono ?_);rintro e w9 ⟨rfl,hb9⟩;(first | (with_reducible have hbs:=drew_first hb9) | (have hbs:=hb9));replace RA:=Lib.hid (row_keep hbs RA.out);replace HB:=Lib.hid (HB.out.trans (hbs.mono HB.out.size));clear hb9 hbs)
   | (go_at_call 72;(with_reducible refine (HU.out an hbn _).mono ?_);rintro e w9 ⟨rfl,hb9⟩;(first | (with_reducible have hbs:=drew_first hb9) | (have hbs:=hb9));replace RA:=Lib.hid (row_keep hbs RA.out);replace HB:=Lib.hid (HB.out.trans (hbs.mono HB.out.size));clear hb9 hbs))
  all_goals (go_wp2_with fail;go_meet)
  all_goals (exact ⟨congrArg Value.string (by rw [ByteArray.mk_append_mk,HLe.out]),HB.out⟩)
 case rest =>
  obtain ⟨rfl,hbx⟩:=hcut
  have RAx:=Lib.hid (row_keep hbx RA.out);replace Hbw:=Lib.hid (Hbw.out.trans (hbx.mono Hbw.out.size))
  clear RA cA hbx
  have cA:=rowc RAx.out
  go_wp2_with fail
  refine (H1.out _ Hbw.out).mono ?_;rintro e w2 ⟨⟨t1,rfl,ht1⟩,hb2⟩
  replace RAx:=Lib.hid (row_keep hb2 RAx.out);replace Hbw:=Lib.hid (Hbw.out.trans (hb2.mono Hbw.out.size))
  have HT1:=Lib.hid ht1
  clear hb2 cA ht1
  have cA:=rowc RAx.out
  go_wp2_with fail
  refine (H2.out _ Hbw.out).mono ?_;rintro e w3 ⟨⟨t2,rfl,ht2⟩,hb3⟩
  replace RAx:=Lib.hid (row_keep hb3 RAx.out);replace Hbw:=Lib.hid (Hbw.out.trans (hb3.mono Hbw.out.size))
  have HT2:=Lib.hid ht2
  clear hb3 cA ht2
  have cA:=rowc RAx.out
  clear H1 H2 HU hz3 hz4
  have hq0:¬ 9223372036854775807 < L.length + 1:=by omega
  cases ah with
  | false =>
   go_wp2_with fail
   go_ret
   exact ⟨ret_of (congrArg Value.string (by rw [ByteArray.mk_append_mk])),Hbw.out⟩
  | true =>
   cases il with
   | false =>
    go_wp2_with fail
    go_ret
    exact ⟨ret_of (congrArg Value.string (by rw [ByteArray.mk_append_mk])),Hbw.out⟩
   | true =>
    obtain rfl:=HT1.out rfl
    obtain ⟨hk1,hk5⟩:=hk rfl
    cases iH with
    | false =>
     go_wp2_with fail
     go_ret
     exact ⟨ret_of (congrArg Value.string (by rw [ByteArray.mk_append_mk])),Hbw.out⟩
    | true =>
     obtain rfl:=HT2.out rfl
     have hs:=run_lit_string (P:=Tryz.prog) (src:=129) (dst:=9) w3 al.k Tryz.underlying129 Tryz.underlying5 Tryz.underlying9 (by omega) (by omega)
     have hw8:IntKind.u8.wrap al.k = al.k:=by rw [IntKind.wrap_u8];omega
     clear HT1 HT2 hk
     go_wp2_with fail
     go_ret
     refine ⟨ret_of (congrArg Value.string (?_:((((⟨L.toArray⟩:ByteArray) ++ ⟨([1]:List UInt8).toArray⟩) ++ ⟨([UInt8.ofNat al.k.toNat]:List UInt8).toArray⟩) ++ ⟨A1.toArray⟩) ++ ⟨A2.toArray⟩ = _)),Hbw.out.alloc Hbw.out.size _⟩
     rw [ByteArray.mk_append_mk,ByteArray.mk_append_mk,ByteArray.mk_append_mk,ByteArray.mk_append_mk]
     simp
end Go.Proofs.YtapiabmmfmfaeaaGreatDoor
/- Columns in memory: slices of them; plain Lean on joining. -/
namespace Go.Proofs.YtapiabmmfmfaeaaGreatDoor
set_option maxHeartbeats 8000000
set_option linter.unusedVariables false
open Go Go.RowKit Go.ChangeShapes
def ColAt (w:World) (b o:Nat) (c:Col):Prop:=∃ p q d,IsInts w p c.rep ∧ IsInts w q c.df ∧ IsVals w d c.vals ∧ ∀ j v,(colA c p q d)[j]? = some v → w.cell? ⟨b,o + j,none⟩ = some v
def IsCols (w:World) (v:Value) (l:List Col):Prop :=
 (l = [] ∧ ∃ ad cap,v = .slice ad 0 cap) ∨ ∃ b off cap,v = .slice (some ⟨b,off,none⟩) l.length cap ∧ b < w.heap.size ∧ ∀ (j:Nat) (c:Col),l[j]? = some c → ColAt w b (off + j * 4) c
theorem ColAt.below {w w':World} {b o:Nat} {c:Col} {B:Nat} (h:ColAt w b o c) (hb:Below B w w') (hB:w.heap.size ≤ B) (hl:b < w.heap.size):ColAt w' b o c:=by
 obtain ⟨p,q,d,h1,h2,h3,h4⟩:=h
 exact ⟨p,q,d,h1.below hb hB,h2.below hb hB,h3.below hb hB,fun j v hj=>(hb.cell (p:=⟨b,o + j,none⟩) (Nat.lt_of_lt_of_le hl hB)).trans (h4 j v hj)⟩
theorem IsCols.below {w w':World} {v:Value} {l:List Col} {B:Nat} (h:IsCols w v l) (hb:Below B w w') (hB:w.heap.size ≤ B):IsCols w' v l:=by
 rcases h with h | ⟨b,off,cap,h1,h2,h3⟩
 ·exact .inl h
 ·exact .inr ⟨b,off,cap,h1,Nat.lt_of_lt_of_le h2 hb.size,fun j c hj=>(h3 j c hj).below hb hB h2⟩
theorem IsCols.form {w:World} {v:Value} {l:List Col} (h:IsCols w v l):∃ ad cap,v = .slice ad l.length cap:=by
 rcases h with ⟨rfl,ad,cap,rfl⟩ | ⟨b,off,cap,rfl,_⟩
 ·exact ⟨ad,cap,rfl⟩
 ·exact ⟨_,cap,rfl⟩
theorem IsCols.at {w:World} {ad:Option Addr} {n cap:Nat} {l:List Col} (h:IsCols w (.slice ad n cap) l) (hl:0 < l.length) :
  ∃ b off,ad = some ⟨b,off,none⟩ ∧ n = l.length ∧ b < w.heap.size ∧ ∀ (j:Nat) (c:Col),l[j]? = some c → ColAt w b (off + j * 4) c:=by
 rcases h with ⟨rfl,_⟩ | ⟨b,off,cap',hv,h2,h3⟩
 ·simp at hl
 ·injection hv with e1 e2 e3
  exact ⟨b,off,e1,e2,h2,h3⟩
def GErr.isNil:GErr → Bool
 | .nil=>true
 | _=>false
theorem GErr.isNil_iff (e:GErr):e.isNil = true ↔ e = .nil:=by cases e <;> simp [GErr.isNil]
theorem own_cap' {w:World} {B n s:Nat} {e:TypeId} {v:Value} {xs:List Value} (h:w.ownsRow B e s v n xs):∃ m b c,v = .slice b m c:=by
 obtain ⟨b,c,h1,-⟩:=own_cap h
 exact ⟨n,b,c,h1⟩
end Go.Proofs.YtapiabmmfmfaeaaGreatDoor
/- A page: plain Lean. -/
namespace Go.Proofs.YtapiabmmfmfaeaaGreatDoor
set_option maxHeartbeats 8000000
set_option linter.unusedVariables false
open Go Go.RowKit Go.ChangeShapes
theorem nats_len (l:List Int):(nats l).length = l.length:=List.length_map _
def lwd (m:Int):Nat:=Lib.bitLen m.toNat
theorem lwd_fin:∀ m:Fin 41,Lib.bitLen m.val ≤ 6 ∧ ∀ x:Fin 41,x.val ≤ m.val → x.val < 2 ^ Lib.bitLen m.val:=by decide +kernel
theorem lwd_le {m:Int} (h0:0 ≤ m) (h:m ≤ 40):lwd m ≤ 6:=(lwd_fin ⟨m.toNat,by omega⟩).1
theorem lwd_lt {m x:Int} (h0:0 ≤ m) (h:m ≤ 40) (x0:0 ≤ x) (hx:x ≤ m):x.toNat < 2 ^ lwd m:=(lwd_fin ⟨m.toNat,by omega⟩).2 ⟨x.toNat,by omega⟩ (by show x.toNat ≤ m.toNat;omega)
theorem levels_all {f:Lf}:∀ (r d:List Int),r.length = d.length → levelsB f r d = true → (∀ x ∈ r,0 ≤ x ∧ x ≤ f.mr) ∧ ∀ x ∈ d,0 ≤ x ∧ x ≤ f.md
 | [],[],_,_=>⟨fun x hx=>(by cases hx),fun x hx=>(by cases hx)⟩
 | x :: r,y :: d,hl,h=>by
  simp only [List.length_cons] at hl
  simp only [levelsB,Bool.and_eq_true,decide_eq_true_iff] at h
  obtain ⟨⟨a1,a2,a3,a4⟩,h2⟩:=h
  obtain ⟨b1,b2⟩:=levels_all r d (by omega) h2
  refine ⟨fun z hz=>?_,fun z hz=>?_⟩
  ·rcases List.mem_cons.1 hz with rfl | hz
   ·exact ⟨a1,a2⟩
   ·exact b1 z hz
  ·rcases List.mem_cons.1 hz with rfl | hz
   ·exact ⟨a3,a4⟩
   ·exact b2 z hz
theorem Right.reps {f:Lf} {c:Col} (h:Right f c):(∀ x ∈ c.rep,0 ≤ x ∧ x ≤ f.mr) ∧ ∀ x ∈ c.df,0 ≤ x ∧ x ≤ f.md:=levels_all _ _ h.len h.lev
theorem Right.rep_lt {f:Lf} {c:Col} (h:Right f c):∀ x ∈ nats c.rep,x < 2 ^ lwd f.mr:=by
 intro x hx
 obtain ⟨y,hy,rfl⟩:=List.mem_map.1 hx
 obtain ⟨a,b⟩:=h.reps.1 y hy
 exact lwd_lt h.r0 h.r40 a b
theorem Right.df_lt {f:Lf} {c:Col} (h:Right f c):∀ x ∈ nats c.df,x < 2 ^ lwd f.md:=by
 intro x hx
 obtain ⟨y,hy,rfl⟩:=List.mem_map.1 hx
 obtain ⟨a,b⟩:=h.reps.2 y hy
 exact lwd_lt h.d0 h.d40 a b
theorem manyB_le (md:Int) (l:List Int):many md l ≤ l.length:=List.length_filter_le _ _
theorem Right.vals_le {f:Lf} {c:Col} (h:Right f c):c.vals.length ≤ c.rep.length:=by
 rw [← h.many,h.len];exact manyB_le _ _
theorem Right.nil_vals {f:Lf} {c:Col} (h:Right f c) (hl:c.vals.length ≤ 20000):valsErr f.kind c.vals = .nil:=by
 unfold valsErr
 rw [if_neg (by have:=h.k1;have:=h.k5;omega),if_neg (by omega),(badAt_none f.kind c.vals 0).2 h.vals]
def lev (m:Int) (l:List Int):List UInt8:=textOf (runsB (lwd m) (nats l) [])
def bodyB (f:Lf) (c:Col):List UInt8:=stText (knownSt c) ++ (lev f.mr c.rep ++ (lev f.md c.df ++ (UInt8.ofNat (bestB f.kind c.vals).1.toNat :: textOf (bestB f.kind c.vals).2)))
def pageOf (b:List UInt8):List UInt8:=80 :: (seven b.length ++ (little 4 (crc b) ++ b))
def pageB (f:Lf) (c:Col):List UInt8:=pageOf (bodyB f c)
theorem crc_lt (l:List UInt8):crc l < 4294967296:=Nat.xor_lt_two_pow (n:=32) (crcRaw_lt l) (by decide)
theorem zv_ok':zv.Ok:=⟨by decide,by decide,by decide,by decide,by decide⟩
theorem stText_len (s:St) (h1:s.lo.s.size ≤ 1000) (h2:s.hi.s.size ≤ 1000):(stText s).length ≤ 2100 ∨ s.e.toNat ≥ 18446744073709551616 ∨ s.n.toNat ≥ 18446744073709551616:=by
 by_cases he:s.e.toNat < 18446744073709551616
 ·by_cases hn:s.n.toNat < 18446744073709551616
  ·left
   have a1:=seven_len he
   have a2:=seven_len hn
   have b1:=plainB_one s.lo (by omega)
   have b2:=plainB_one s.hi (by omega)
   have c1:=textOf_length (plainB s.lo.k [s.lo]) (by omega)
   have c2:=textOf_length (plainB s.hi.k [s.hi]) (by omega)
   unfold stText oneText
   split
   ·simp only [List.length_append,List.length_cons];omega
   ·simp only [List.length_append,List.length_cons,List.length_nil];omega
  ·right;right;omega
 ·right;left;omega
theorem okP_size {k:Int} {x:Val} (h:OkP k x):x.s.size ≤ 100:=by
 by_cases h4:k = 4
 ·exact (h.text h4).2
 ·rw [h.num h4];omega
theorem knownSt_ok {f:Lf} {c:Col} (co:c.Ok) (hr:Right f c) (hl:c.rep.length ≤ 20000):(knownSt c).Ok ∧ (knownSt c).lo.s.size ≤ 100 ∧ (knownSt c).hi.s.size ≤ 100:=by
 have hv:=hr.vals_le
 have hz:zv.Ok:=zv_ok'
 have hlo:(loOf c.vals).Ok ∧ (loOf c.vals).s.size ≤ 100:=by
  by_cases hn:c.vals = []
  ·rw [hn];exact ⟨hz,by decide⟩
  ·exact ⟨co.vals.2 _ (loOf_mem _ hn),okP_size (hr.vals _ (loOf_mem _ hn))⟩
 have hhi:(hiOf c.vals).Ok ∧ (hiOf c.vals).s.size ≤ 100:=by
  by_cases hn:c.vals = []
  ·rw [hn];exact ⟨hz,by decide⟩
  ·exact ⟨co.vals.2 _ (hiOf_mem _ hn),okP_size (hr.vals _ (hiOf_mem _ hn))⟩
 refine ⟨⟨?_,?_,?_,?_,hlo.1,hhi.1⟩,hlo.2,hhi.2⟩ <;> simp only [knownSt] <;> omega
theorem body_len {f:Lf} {c:Col} (co:c.Ok) (hr:Right f c) (hl:c.rep.length ≤ 1000):(lev f.mr c.rep).length ≤ 40100 ∧ (lev f.md c.df).length ≤ 40100 ∧ (textOf (bestB f.kind c.vals).2).length ≤ 101100 ∧ (stText (knownSt c)).length ≤ 2100 ∧ (bodyB f c).length ≤ 190000 ∧ (runsB (lwd f.mr) (nats c.rep) []).length ≤ 40012 ∧ (runsB (lwd f.md) (nats c.df) []).length ≤ 40012 ∧ (bestB f.kind c.vals).2.length ≤ 101000:=by
 have hv:=hr.vals_le
 obtain ⟨ko,k1,k2⟩:=knownSt_ok co hr (by omega)
 have a1:=runsB_len (lwd f.mr) (by have:=lwd_le hr.r0 hr.r40;omega) _ (nats c.rep) [] rfl (by rw [nats_len];simp;omega)
 have a2:=runsB_len (lwd f.md) (by have:=lwd_le hr.d0 hr.d40;omega) _ (nats c.df) [] rfl (by rw [nats_len,← hr.len];simp;omega)
 rw [nats_len] at a1 a2
 rw [← hr.len] at a2
 simp only [List.length_nil] at a1 a2
 have b1:=textOf_length (runsB (lwd f.mr) (nats c.rep) []) (by omega)
 have b2:=textOf_length (runsB (lwd f.md) (nats c.df) []) (by omega)
 have d1:=plainB_len f.kind c.vals (fun h4 x hx=>(okP_size (hr.vals x hx)))
 have d2:=(bestB_le f.kind c.vals).1
 have d3:=textOf_length (bestB f.kind c.vals).2 (by omega)
 have e1:(stText (knownSt c)).length ≤ 2100:=by
  rcases stText_len (knownSt c) (by omega) (by omega) with h | h | h
  ·exact h
  ·exfalso;have:=ko.e1;omega
  ·exfalso;have:=ko.n1;omega
 unfold lev
 refine ⟨by omega,by omega,by omega,e1,?_,by omega,by omega,by omega⟩
 unfold bodyB lev
 simp only [List.length_append,List.length_cons]
 omega
theorem bestB_fst (kind:Int) (l:List Val):0 ≤ (bestB kind l).1 ∧ (bestB kind l).1 ≤ 3:=by
 have ht:∀ (p:Int × List UInt8) (k:Int) (s:List UInt8),0 ≤ p.1 ∧ p.1 ≤ 3 → 0 ≤ k ∧ k ≤ 3 → 0 ≤ (tryS p k s).1 ∧ (tryS p k s).1 ≤ 3:=by
  intro p k s h1 h2
  unfold tryS
  split <;> assumption
 unfold bestB best2
 split <;> (try split) <;> (repeat' (refine ht _ _ _ ?_ ?_)) <;> simp
end Go.Proofs.YtapiabmmfmfaeaaGreatDoor
