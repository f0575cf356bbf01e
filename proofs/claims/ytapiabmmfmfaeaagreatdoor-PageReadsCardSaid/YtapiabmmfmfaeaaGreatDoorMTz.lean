/- Merged texts: Tx6, Tx8. -/
import Derived.Test.YtapiabmmfmfaeaaGreatDoorTx5
import Derived.Test.YtapiabmmfmfaeaaGreatDoorMEnc
/- What stats a text begins with: the document's reading and the program's are one; plain Lean. -/
namespace Go.Proofs.YtapiabmmfmfaeaaGreatDoor
set_option maxHeartbeats 1000000
set_option linter.unusedVariables false
open Go Go.RowKit Go.ChangeShapes
def twoRef (L:List UInt8) (k:Int) (at_:Nat):Option (Val × Val × Nat):=match readT (L.drop at_) with
 | none=>none
 | some (t,u)=>match oneP k t with
  | none=>none
  | some v=>match readT (L.drop (at_ + u)) with
   | none=>none
   | some (t2,u2)=>match oneP k t2 with
    | none=>none
    | some v2=>if v2.less v then none else some (v,v2,at_ + u + u2)
def readRef (L:List UInt8):Option (St × Nat):=match readU L with
 | none=>none
 | some (e,a)=>if 20000 < e then none else match readU (L.drop a) with
  | none=>none
  | some (n,b)=>if e < n then none else if L.length ≤ a + b then none else
   if 1 < ((L[a + b]?).getD 0).toNat then none else
   if ((((L[a + b]?).getD 0).toNat == 1) != decide (n < e)) then none else
   if ((L[a + b]?).getD 0).toNat = 0 then some (⟨(e:Nat),(n:Nat),false,zv,zv⟩,a + b + 1) else
   if L.length ≤ a + b + 1 then none else
   match twoRef L (((L[a + b + 1]?).getD 0).toNat:Nat) (a + b + 1 + 1) with
   | none=>none
   | some (v,v2,p)=>some (⟨(e:Nat),(n:Nat),true,v,v2⟩,p)
theorem byteP_bad (L:List UInt8) (p:Nat):byteP L ⟨p,true⟩ = (0,⟨p,true⟩):=by
 unfold byteP;rw [if_pos (Or.inl rfl)]
theorem byteP_out (L:List UInt8) (p:Nat) (h:L.length ≤ p):byteP L ⟨p,false⟩ = (0,⟨p,true⟩):=by
 unfold byteP;rw [if_pos (Or.inr h)]
theorem byteP_in (L:List UInt8) (p:Nat) (h:¬ L.length ≤ p):byteP L ⟨p,false⟩ = (((L[p]?).getD 0).toNat,⟨p + 1,false⟩):=by
 unfold byteP;rw [if_neg (by simp;omega)]
theorem valP_bad (L:List UInt8) (k:Int) (p:Nat):valP L k ⟨p,true⟩ = (zv,⟨p,true⟩):=by
 unfold valP
 split <;> rfl
theorem zv_less:zv.less zv = false:=by decide
theorem rdS_bad {L:List UInt8} {e:Nat} {r:Rdr} {n p:Nat} (h1:numP L ⟨0,false⟩ = (e,r)) (h2:(if r.bad then (0,r) else numP L r) = (n,⟨p,true⟩)):(rdS L).fail = true:=by
 unfold rdS
 rw [h1]
 simp only
 rw [h2]
 simp only [byteP_bad]
 simp [RdS.fail]
theorem valP_two (L:List UInt8) (k:Int) (p:Nat) :
  (twoRef L k p = none → ((valP L k (valP L k ⟨p,false⟩).2).2.bad || (valP L k (valP L k ⟨p,false⟩).2).1.less (valP L k ⟨p,false⟩).1) = true) ∧
  (∀ v v2 q,twoRef L k p = some (v,v2,q) → (valP L k ⟨p,false⟩).1 = v ∧ (valP L k (valP L k ⟨p,false⟩).2).1 = v2 ∧ (valP L k (valP L k ⟨p,false⟩).2).2 = ⟨q,false⟩ ∧ v2.less v = false):=by
 unfold twoRef
 cases h1:readT (L.drop p) with
 | none =>
  have e:valP L k ⟨p,false⟩ = (zv,⟨p,true⟩):=by unfold valP;rw [h1]
  rw [e]
  simp only [valP_bad]
  simp
 | some tu =>
  obtain ⟨t,u⟩:=tu
  simp only
  cases h2:oneP k t with
  | none =>
   have e:valP L k ⟨p,false⟩ = (zv,⟨p,true⟩):=by unfold valP;rw [h1];simp only;rw [h2];rfl
   rw [e]
   simp only [valP_bad]
   simp
  | some v =>
   have e:valP L k ⟨p,false⟩ = (v,⟨p + u,false⟩):=by unfold valP;rw [h1];simp only;rw [h2];rfl
   rw [e]
   simp only
   cases h3:readT (L.drop (p + u)) with
   | none =>
    have e:valP L k ⟨p + u,false⟩ = (zv,⟨p + u,true⟩):=by unfold valP;rw [h3]
    rw [e]
    simp
   | some tu2 =>
    obtain ⟨t2,u2⟩:=tu2
    simp only
    cases h4:oneP k t2 with
    | none =>
     have e:valP L k ⟨p + u,false⟩ = (zv,⟨p + u,true⟩):=by unfold valP;rw [h3];simp only;rw [h4];rfl
     rw [e]
     simp
    | some v2 =>
     have e:valP L k ⟨p + u,false⟩ = (v2,⟨p + u + u2,false⟩):=by unfold valP;rw [h3];simp only;rw [h4];rfl
     rw [e]
     simp only
     cases hl:v2.less v with
     | true=>simp
     | false =>
      simp only [Bool.false_eq_true,if_false]
      refine ⟨fun h=>(by cases h),fun a b q h=>?_⟩
      simp only [Option.some.injEq,Prod.mk.injEq] at h
      obtain ⟨rfl,rfl,rfl⟩:=h
      exact ⟨rfl,rfl,rfl,hl⟩
theorem readPr_eq (L:List UInt8):readPr L = readRef L:=by
 unfold readPr readRef
 cases h1:readU L with
 | none =>
  have e1:numP L ⟨0,false⟩ = (0,⟨0,true⟩):=by unfold numP;simp [h1]
  rw [if_pos (rdS_bad e1 (by rfl))]
 | some ea =>
  obtain ⟨e,a⟩:=ea
  have e1:numP L ⟨0,false⟩ = (min e 20000,⟨a,decide (20000 < e)⟩):=by unfold numP;simp [h1]
  simp only
  by_cases h2:20000 < e
  ·rw [if_pos h2,if_pos]
   rw [show decide (20000 < e) = true by simpa using h2] at e1
   exact rdS_bad e1 (by rfl)
  ·rw [if_neg h2]
   rw [show decide (20000 < e) = false by simpa using h2,show min e 20000 = e by omega] at e1
   cases h3:readU (L.drop a) with
   | none =>
    have e2:numP L ⟨a,false⟩ = (0,⟨a,true⟩):=by unfold numP;simp [h3]
    rw [if_pos (rdS_bad e1 (by simpa using e2))]
   | some nb =>
    obtain ⟨n,b⟩:=nb
    have e2:numP L ⟨a,false⟩ = (min n 20000,⟨a + b,decide (20000 < n)⟩):=by unfold numP;simp [h3]
    simp only
    by_cases h4:20000 < n
    ·rw [if_pos (show e < n by omega),if_pos]
     rw [show decide (20000 < n) = true by simpa using h4] at e2
     exact rdS_bad e1 (by simpa using e2)
    rw [show decide (20000 < n) = false by simpa using h4,show min n 20000 = n by omega] at e2
    have hR:rdS L = (let x3:=byteP L ⟨a + b,false⟩
     if x3.1 = 1 then ⟨e,n,x3.1,(valP L ((byteP L x3.2).1:Nat) (byteP L x3.2).2).1,(valP L ((byteP L x3.2).1:Nat) (valP L ((byteP L x3.2).1:Nat) (byteP L x3.2).2).2).1,(valP L ((byteP L x3.2).1:Nat) (valP L ((byteP L x3.2).1:Nat) (byteP L x3.2).2).2).2⟩
     else ⟨e,n,x3.1,zv,zv,x3.2⟩):=by
     unfold rdS
     rw [e1]
     simp only [Bool.false_eq_true,if_false]
     rw [e2]
    by_cases h5:e < n
    ·rw [if_pos h5,if_pos]
     rw [hR]
     simp only
     split <;> simp [RdS.fail,h5]
    rw [if_neg h5]
    by_cases h6:L.length ≤ a + b
    ·rw [if_pos h6,if_pos]
     rw [hR,byteP_out _ _ h6]
     simp [RdS.fail]
    rw [if_neg h6]
    rw [byteP_in _ _ h6] at hR
    simp only at hR
    generalize ((L[a + b]?).getD 0).toNat = h at *
    by_cases h7:1 < h
    ·rw [if_pos h7,if_pos]
     rw [hR,if_neg (by omega)]
     simp [RdS.fail,h7]
    rw [if_neg h7]
    by_cases h8:h = 0
    ·subst h8
     simp only [if_pos]
     rw [if_neg (by decide)] at hR
     rw [hR]
     cases hd:decide (n < e) with
     | true=>simp [RdS.fail,hd]
     | false=>simp [RdS.fail,hd,zv_less,h5]
    have h9:h = 1:=by omega
    subst h9
    simp only [if_pos] at hR
    rw [if_neg (c:=(1:Nat) = 0) (by decide)]
    cases hd:decide (n < e) with
    | false =>
     rw [if_pos (c:=((((1:Nat) == 1) != false) = true)) rfl,if_pos]
     rw [hR]
     simp [RdS.fail,hd]
    | true =>
     rw [if_neg (c:=((((1:Nat) == 1) != true) = true)) (by decide)]
     by_cases h10:L.length ≤ a + b + 1
     ·rw [if_pos (c:=L.length ≤ a + b + 1) h10,if_pos]
      rw [hR,byteP_out _ _ h10]
      simp only [valP_bad]
      simp [RdS.fail]
     rw [if_neg (c:=L.length ≤ a + b + 1) h10]
     rw [byteP_in _ _ h10] at hR
     simp only at hR
     generalize ((((L[a + b + 1]?).getD 0).toNat:Nat):Int) = k at *
     obtain ⟨t1,t2⟩:=valP_two L k (a + b + 1 + 1)
     cases ht:twoRef L k (a + b + 1 + 1) with
     | none =>
      have:=t1 ht
      rw [if_pos]
      rw [hR]
      rw [Bool.or_eq_true] at this
      rcases this with h | h <;> simp [RdS.fail,h]
     | some q =>
      obtain ⟨v,v2,p⟩:=q
      obtain ⟨g1,g2,g3,g4⟩:=t2 v v2 p ht
      rw [g1,g2,g3] at hR
      rw [hR]
      simp [RdS.fail,hd,g4,h5]
end Go.Proofs.YtapiabmmfmfaeaaGreatDoor
/- stats.Read whole. -/
namespace Go.Proofs.YtapiabmmfmfaeaaGreatDoor
set_option maxHeartbeats 1000000
set_option linter.unusedVariables false
open Go Go.RowKit Go.ChangeShapes
theorem byteP_bad0 {L:List UInt8} {r:Rdr} (h:(byteP L r).2.bad = true):(byteP L r).1 = 0:=by
 unfold byteP at h ⊢
 split
 ·rfl
 ·rename_i hn;rw [if_neg hn] at h;cases h
theorem stRet_none {ev:Value} {L:List UInt8} (h:(rdS L).fail = true):stRet ev (readPr L) = .tuple #[.agg (stA St.none),.int .i64 0,ev]:=by
 unfold readPr;rw [if_pos h];rfl
theorem stRet_some {ev:Value} {L:List UInt8} (h:(rdS L).fail = false):stRet ev (readPr L) = .tuple #[.agg (stA ⟨((rdS L).e:Nat),((rdS L).n:Nat),(rdS L).h == 1,(rdS L).lo,(rdS L).hi⟩),.int .i64 ((rdS L).r.pos:Nat),.nilIface]:=by
 unfold readPr;rw [if_neg (by rw [h];decide)];rfl
theorem read_any (s:ByteArray) (hs:s.size ≤ 1000000) (w:World) (adr:Nat → Addr) (hE:ErrsAt w adr [1,2,4]) :
  Calls Tryz.prog 17 #[.string s] w fun e9 w'=>e9 = .returned (stRet (.iface 211 (.pointer (some (adr 1)))) (readPr s.data.toList)) ∧ Below w.heap.size w w':=by
 have hls:s.data.toList.length = s.size:=by simp
 have N:=fun (r:Rdr) (h:r.pos ≤ s.size) (w1:World) (hb:Below w.heap.size w w1) hg=>rnumber_any s hs r h (w.heap.size + 1) 93 w1 hg adr ((hE.sub (by decide)).below hb)
 have B:=fun (r:Rdr) (h:r.pos ≤ s.size) (w1:World) (hb:Below w.heap.size w w1) hg=>rbyte_any s hs r h (w.heap.size + 1) 93 w1 hg
 have V:=fun (kind:Int) (r:Rdr) (h:r.pos ≤ s.size) (w1:World) (hb:Below w.heap.size w w1) hg=>rvalue_any s hs kind r h (w.heap.size + 1) 93 w1 hg adr (hE.below hb)
 obtain ⟨l1,-⟩:=numP_le (L:=s.data.toList) (r:=⟨0,false⟩) (Nat.zero_le _)
 have n1:=N ⟨0,false⟩ (Nat.zero_le _)
 cases hx1:numP s.data.toList ⟨0,false⟩ with
 | mk e r1 =>
 rw [hx1] at n1 l1
 obtain ⟨p1,b1⟩:=r1
 simp only [hls] at l1
 cases b1 with
 | true =>
  rw [stRet_none (rdS_bad hx1 (by rfl))]
  have h3:=B ⟨p1,true⟩ l1
  rw [byteP_bad] at h3
  exact read_A s e p1 p1 w adr hE n1 h3
 | false =>
  obtain ⟨l2,-⟩:=numP_le (L:=s.data.toList) (r:=⟨p1,false⟩) (by rw [hls];exact l1)
  have n2:=N ⟨p1,false⟩ l1
  cases hx2:numP s.data.toList ⟨p1,false⟩ with
  | mk n r2 =>
  rw [hx2] at n2 l2
  obtain ⟨p2,b2⟩:=r2
  simp only [hls] at l2
  obtain ⟨l3,-⟩:=byteP_le (L:=s.data.toList) (r:=⟨p2,b2⟩) (by rw [hls];exact l2)
  have n3:=B ⟨p2,b2⟩ l2
  have hb0:=byteP_bad0 (L:=s.data.toList) (r:=⟨p2,b2⟩)
  cases hx3:byteP s.data.toList ⟨p2,b2⟩ with
  | mk h r3 =>
  rw [hx3] at n3 l3 hb0
  obtain ⟨p3,b3⟩:=r3
  simp only [hls] at l3 hb0
  have hR:rdS s.data.toList = (if h = 1 then ⟨e,n,h,(valP s.data.toList ((byteP s.data.toList ⟨p3,b3⟩).1:Nat) (byteP s.data.toList ⟨p3,b3⟩).2).1,(valP s.data.toList ((byteP s.data.toList ⟨p3,b3⟩).1:Nat) (valP s.data.toList ((byteP s.data.toList ⟨p3,b3⟩).1:Nat) (byteP s.data.toList ⟨p3,b3⟩).2).2).1,(valP s.data.toList ((byteP s.data.toList ⟨p3,b3⟩).1:Nat) (valP s.data.toList ((byteP s.data.toList ⟨p3,b3⟩).1:Nat) (byteP s.data.toList ⟨p3,b3⟩).2).2).2⟩
    else ⟨e,n,h,zv,zv,⟨p3,b3⟩⟩):=by
   unfold rdS
   rw [hx1]
   simp only [Bool.false_eq_true,if_false]
   rw [hx2]
   simp only [hx3]
  by_cases h1:h = 1
  ·subst h1
   have hb3:b3 = false:=by cases b3 with
    | false=>rfl
    | true=>have:=hb0 rfl;cases this
   subst hb3
   rw [if_pos rfl] at hR
   obtain ⟨l4,k256⟩:=byteP_le (L:=s.data.toList) (r:=⟨p3,false⟩) (by rw [hls];exact l3)
   have n4:=B ⟨p3,false⟩ l3
   cases hx4:byteP s.data.toList ⟨p3,false⟩ with
   | mk k r4 =>
   rw [hx4] at n4 l4 hR k256
   obtain ⟨p4,b4⟩:=r4
   simp only [hls] at l4 k256 hR
   have l5:=valP_le (L:=s.data.toList) (kind:=(k:Nat)) (r:=⟨p4,b4⟩) (by rw [hls];exact l4)
   have n5:=V (k:Nat) ⟨p4,b4⟩ l4
   have o5:=valP_ok s.data.toList (k:Nat) ⟨p4,b4⟩
   cases hx5:valP s.data.toList (k:Nat) ⟨p4,b4⟩ with
   | mk lo r5 =>
   rw [hx5] at n5 l5 hR o5
   obtain ⟨p5,b5⟩:=r5
   simp only [hls] at l5 hR o5
   have l6:=valP_le (L:=s.data.toList) (kind:=(k:Nat)) (r:=⟨p5,b5⟩) (by rw [hls];exact l5)
   have n6:=V (k:Nat) ⟨p5,b5⟩ l5
   have o6:=valP_ok s.data.toList (k:Nat) ⟨p5,b5⟩
   cases hx6:valP s.data.toList (k:Nat) ⟨p5,b5⟩ with
   | mk hi r6 =>
   rw [hx6] at n6 l6 hR o6
   obtain ⟨p6,b6⟩:=r6
   simp only [hls] at l6 hR o6
   have hk8:IntKind.i64.wrap (k:Int) = (k:Int):=by rw [IntKind.wrap_i64];omega
   cases b6 with
   | true =>
    rw [stRet_none (by rw [hR];simp [RdS.fail])]
    exact read_Cbad s e n k p1 p2 p3 p4 p5 p6 b2 b4 b5 lo hi hk8 w adr hE n1 n2 n3 n4 n5 n6
   | false =>
    by_cases h4:e < n
    ·rw [stRet_none (by rw [hR];simp [RdS.fail,h4])]
     exact read_Cmore s e n k p1 p2 p3 p4 p5 p6 b2 b4 b5 lo hi hk8 w adr hE n1 n2 n3 n4 n5 n6 (by omega) (by simpa using h4)
    ·by_cases h5:n < e
     ·have less:=fun w1=>show Calls _ _ _ _ _ from less_any hi lo o6 o5 w1
      cases hl:hi.less lo with
      | true =>
       rw [hl] at less
       rw [stRet_none (by rw [hR];simp [RdS.fail,hl])]
       exact read_Cless s e n k p1 p2 p3 p4 p5 p6 b2 b4 b5 lo hi hk8 w adr hE n1 n2 n3 n4 n5 n6 less (by omega) (by simpa using h4) (by omega) (by simpa using h5)
      | false =>
       rw [hl] at less
       rw [stRet_some (by rw [hR];simp [RdS.fail,hl,h4,h5]),hR]
       exact read_Cok s e n k p1 p2 p3 p4 p5 p6 b2 b4 b5 lo hi hk8 w adr hE n1 n2 n3 n4 n5 n6 less (by omega) (by simpa using h4) (by omega) (by simpa using h5)
     ·rw [stRet_none (by rw [hR];simp [RdS.fail,h5])]
      exact read_Chas s e n k p1 p2 p3 p4 p5 p6 b2 b4 b5 lo hi hk8 w adr hE n1 n2 n3 n4 n5 n6 (by omega) (by simpa using h4) (by omega) (by simpa using h5)
  ·rw [if_neg h1] at hR
   cases b3 with
   | true =>
    rw [stRet_none (by rw [hR];simp [RdS.fail])]
    rw [hb0 rfl] at n3
    exact read_Bbad s e n p1 p2 p3 b2 w adr hE n1 n2 n3
   | false =>
    by_cases h2:1 < h
    ·rw [stRet_none (by rw [hR];simp [RdS.fail,h2])]
     exact read_Bbig s e n p1 p2 p3 h b2 w adr hE n1 n2 n3 (by rw [beq_eq_false_iff_ne];omega) (by omega) h2
    ·have h0:h = 0:=by omega
     subst h0
     by_cases h4:e < n
     ·rw [stRet_none (by rw [hR];simp [RdS.fail,h4])]
      exact read_Bmore s e n p1 p2 p3 b2 w adr hE n1 n2 n3 (by omega) (by simpa using h4)
     ·by_cases h5:n < e
      ·rw [stRet_none (by rw [hR];simp [RdS.fail,h5])]
       exact read_Bhas s e n p1 p2 p3 b2 w adr hE n1 n2 n3 (by omega) (by simpa using h4) (by omega) (by simpa using h5)
      ·have less:=fun w1=>show Calls _ _ _ _ _ from less_any zv zv zv_ok zv_ok w1
       rw [zv_less] at less
       rw [stRet_some (by rw [hR];simp [RdS.fail,h4,h5,zv_less]),hR]
       exact read_Bok s e n p1 p2 p3 b2 w adr hE n1 n2 n3 less (by omega) (by simpa using h4) (by omega) (by simpa using h5)
end Go.Proofs.YtapiabmmfmfaeaaGreatDoor
