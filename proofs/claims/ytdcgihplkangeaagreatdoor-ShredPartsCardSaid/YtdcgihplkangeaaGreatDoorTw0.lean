/- Trees of nodes in memory; the walk of schema.walk, whatever it shows each node to. -/
import Derived.Test.YtdcgihplkangeaaGreatDoorTr0
import Derived.Test.YtdcgihplkangeaaGreatDoorMRow
import Derived.Test.YtdcgihplkangeaaGreatDoorRows
namespace Go.Proofs.YtdcgihplkangeaaGreatDoor
set_option maxHeartbeats 8000000
set_option linter.unusedVariables false
set_option linter.unusedSimpArgs false
open Go Go.RowKit Go.ChangeShapes
def ndA (n:Nd) (u:Value):Array Value:=#[.int .i64 n.id,.string n.name,.int .i64 n.rep,.int .i64 n.kind,u]
def NdAt (w:World) (b o:Nat) (n:Nd) (u:Value):Prop:=∀ j v,(ndA n u)[j]? = some v → w.cell? ⟨b,o + j,none⟩ = some v
inductive IsNds (P:Nat → Prop) (w:World):Value → List Nd → Prop
 | nil (ad:Option Addr) (cap:Nat):IsNds P w (.slice ad 0 cap) []
 | row (b off cap:Nat) (l:List Nd) (S:Nat → Value) (hP:P b) (hb:b < w.heap.size) (hc:∀ j n,l[j]? = some n → NdAt w b (off + j * 5) n (S j)) (hs:∀ j n,l[j]? = some n → IsNds P w (S j) n.sub) :
   IsNds P w (.slice (some ⟨b,off,none⟩) l.length cap) l
theorem IsNds.form {P:Nat → Prop} {w:World} {v:Value} {l:List Nd} (h:IsNds P w v l):∃ ad cap,v = .slice ad l.length cap:=by
 cases h with
 | nil ad cap=>exact ⟨ad,cap,rfl⟩
 | row b off cap l S=>exact ⟨_,cap,rfl⟩
theorem IsNds.at {P:Nat → Prop} {w:World} {ad:Option Addr} {n cap:Nat} {l:List Nd} (h:IsNds P w (.slice ad n cap) l) (hl:0 < l.length) :
  ∃ b off,ad = some ⟨b,off,none⟩ ∧ P b ∧ b < w.heap.size ∧ ∀ j x,l[j]? = some x → ∃ u,NdAt w b (off + j * 5) x u ∧ IsNds P w u x.sub:=by
 generalize hv:Value.slice ad n cap = v at h
 cases h with
 | nil ad' cap'=>simp at hl
 | row b off cap' l S hP hb hc hs =>
  injection hv with e1 e2 e3
  exact ⟨b,off,e1,hP,hb,fun j x hj=>⟨S j,hc j x hj,hs j x hj⟩⟩
theorem IsNds.one {P:Nat → Prop} {w:World} {v:Value} {l:List Nd} (h:IsNds P w v l):v.oneCell' = true:=by
 obtain ⟨ad,cap,rfl⟩:=h.form;rfl
theorem IsNds.keep {P:Nat → Prop} {w w':World} {v:Value} {l:List Nd} (h:IsNds P w v l) (hz:w.heap.size ≤ w'.heap.size) (hk:∀ b,P b → b < w.heap.size → w'.heap[b]? = w.heap[b]?):IsNds P w' v l:=by
 induction h with
 | nil ad cap=>exact .nil ad cap
 | row b off cap l S hP hb hc hs ih =>
  refine .row b off cap l S hP (by omega) (fun j n hj k x hx=>?_) ih
  rw [World.cell?_of_block (w:=w) (hk b hP hb)]
  exact hc j n hj k x hx
theorem IsNds.mono {P Q:Nat → Prop} {w:World} {v:Value} {l:List Nd} (h:IsNds P w v l) (hPQ:∀ b,P b → b < w.heap.size → Q b):IsNds Q w v l:=by
 induction h with
 | nil ad cap=>exact .nil ad cap
 | row b off cap l S hP hb hc hs ih=>exact .row b off cap l S (hPQ b hP hb) hb hc ih
theorem IsNds.under {B:Nat} {w w':World} {v:Value} {l:List Nd} (h:IsNds (· < B) w v l) (hb:Below B w w'):IsNds (· < B) w' v l:=h.keep hb.size fun b hP _=>hb.block b hP
theorem IsNds.belowP {B:Nat} {P:Nat → Prop} {w w':World} {v:Value} {l:List Nd} (h:IsNds P w v l) (hP:∀ b,P b → b < B) (hb:Below B w w'):IsNds P w' v l:=h.keep hb.size fun b hp _=>hb.block b (hP b hp)
structure Nd.Ok1 (n:Nd):Prop where
 id0:-9223372036854775808 ≤ n.id
 id1:n.id < 9223372036854775808
 r0:-9223372036854775808 ≤ n.rep
 r1:n.rep < 9223372036854775808
 k0:-9223372036854775808 ≤ n.kind
 k1:n.kind < 9223372036854775808
 name:n.name.size ≤ 9223372036854775807
 sub:n.sub.length * 64 ≤ 140737488355328
theorem nd_info:(Tryz.prog.info? 48).map (·.size) = some 5:=by kernel_rfl
theorem own_blw {w w':World} {B n s:Nat} {e:TypeId} {v:Value} {xs:List Value} (h:w.ownsRow B e s v n xs) (hb:Below w.heap.size w w'):w'.ownsRow B e s v n xs:=by
 refine ⟨h.1,?_⟩
 rcases h.2 with h0 | ⟨g,cap,cur,hv,h1,h2,h3⟩
 ·exact .inl h0
 ·exact .inr ⟨g,cap,cur,hv,h1,(hb.block g (Array.getElem?_eq_some_iff.1 h2).1).trans h2,h3⟩
structure Kp (B:Nat) (M:Nat → Prop) (w w':World):Prop where
 below:Below B w w'
 keep:∀ (g:Nat) (cs:Array Value) (T:TypeId) (fz:Nat × Nat),T = 48 ∨ T = 50 → ¬ M g → w.heap[g]? = some (.cells cs T fz) → w'.heap[g]? = some (.cells cs T fz)
theorem Kp.refl (B:Nat) (M:Nat → Prop) (w:World):Kp B M w w:=⟨Below.refl _ _,fun _ _ _ _ _ _ h=>h⟩
theorem Kp.trans {B:Nat} {M:Nat → Prop} {a b c:World} (h:Kp B M a b) (k:Kp B M b c):Kp B M a c:=⟨h.below.trans k.below,fun g cs T fz hT hM hg=>k.keep g cs T fz hT hM (h.keep g cs T fz hT hM hg)⟩
theorem Kp.of_below {B:Nat} {M:Nat → Prop} {w w':World} (h:Below w.heap.size w w') (hB:B ≤ w.heap.size):Kp B M w w':=⟨h.mono hB,fun g cs T fz _ _ hg=>row_keep h hg⟩
theorem Kp.alloc {B:Nat} {M:Nat → Prop} {a w:World} (h:Kp B M a w) (hB:B ≤ w.heap.size) (o:Obj):Kp B M a (w.alloc o):=h.trans (.of_below ((Below.refl _ _).alloc (Nat.le_refl _) o) hB)
theorem nodesL_mem {x y:Nd} {l:List Nd} (hx:x ∈ l) (hy:y ∈ nodes x):y ∈ nodesL l:=by
 induction l with
 | nil=>simp at hx
 | cons z r ih =>
  simp only [nodesL,List.mem_append]
  rcases List.mem_cons.1 hx with rfl | hx
  ·exact .inl hy
  ·exact .inr (ih hx)
theorem run_step {σ:Type} {f:Nd → Int → σ → Bool × σ} {l:List Nd} {j:Nat} {k:Int} {s1 s':σ} {x:Nd} (h:runF f (preL (l.take j) k) s1 = (true,s')) (hs:l.take (j + 1) = l.take j ++ [x]) :
  runF f (preL (l.take (j + 1)) k) s1 = runF f (pre x k) s':=by
 rw [hs,preL_app,runF_app,h];simp [preL]
theorem run_stop {σ:Type} {f:Nd → Int → σ → Bool × σ} {l:List Nd} {i:Nat} {k:Int} {s1:σ} (h:(runF f (preL (l.take i) k) s1).1 = false):runF f (preL l k) s1 = runF f (preL (l.take i) k) s1:=by
 have e:preL l k = preL (l.take i) k ++ preL (l.drop i) k:=by rw [← preL_app,List.take_append_drop]
 rw [e,runF_app,if_neg (by simp [h])]
 exact Prod.ext h.symm rfl
def SeeAt (B:Nat) (P M:Nat → Prop) {σ:Type} (Inv:Nat → σ → World → Prop) (f:Nd → Int → σ → Bool × σ) (g:Nat) (lb:Array Value):Prop :=
 ∀ (m:Nat) (n:Nd) (u:Value) (k:Int) (s:σ) (w:World),B ≤ w.heap.size → Inv (m + 1) s w → IsNds P w u n.sub → (∀ x ∈ nodes n,x.Ok1) →
  Calls Tryz.prog g (#[.agg (ndA n u),.int .i64 k] ++ lb) w fun e w'=>e = .returned (.bool (f n k s).1) ∧ Inv m (f n k s).2 w' ∧ Kp B M w w'
set_option maxRecDepth 100000 in
theorem walk_any {σ:Type} (B:Nat) (P M:Nat → Prop) (Inv:Nat → σ → World → Prop) (f:Nd → Int → σ → Bool × σ) (g:Nat) (lb:Array Value)
  (eg:∀ args w,(callFunc g args).run Tryz.prog w = .ok (.enter g args) w) (hP:∀ b,P b → b < B) (hMB:∀ (b:Nat) (w:World),B ≤ w.heap.size → w.heap.size ≤ b → ¬ M b)
  (HA:∀ m s w w',Inv m s w → B ≤ w.heap.size → Below w.heap.size w w' → Inv m s w') (HD:∀ m m' s w,Inv m s w → m' ≤ m → Inv m' s w)
  (HS:SeeAt B P M Inv f g lb) :
  ∀ (n:Nd),∀ (m:Nat) (u:Value) (k:Int) (s:σ) (w:World),B ≤ w.heap.size → Inv (m + size n) s w → IsNds P w u n.sub → (∀ x ∈ nodes n,x.Ok1) →
   Calls Tryz.prog 68 #[.agg (ndA n u),.int .i64 k,.func (.func g) #[] lb] w fun e w'=>e = .returned (.bool (runF f (pre n k) s).1) ∧ Inv m (runF f (pre n k) s).2 w' ∧ Kp B M w w':=by
 apply Nd.ind
 intro n IH m u k s w hB hI hN hO
 have hI':Inv (m + sizeL n.sub + 1) s w:=by rw [size_eq] at hI;exact HD _ _ _ _ hI (by omega)
 clear hI
 have hO1:=hO n (by rw [nodes_eq];exact List.mem_cons_self ..)
 have hOs:∀ x ∈ nodesL n.sub,x.Ok1:=fun x hx=>hO x (by rw [nodes_eq];exact List.mem_cons_of_mem _ hx)
 have HIH:=Lib.hid IH;have HOs:=Lib.hid hOs
 have HC:=Lib.hid (fun (w1:World) (hw:Below w.heap.size w w1)=>HS (m + sizeL n.sub) n u k s w1 (Nat.le_trans hB hw.size) (HA _ s w w1 hI' hB hw) (hN.belowP hP (hw.mono hB)) hO)
 have HN:=Lib.hid hN
 clear IH hO hOs hI' hN
 have hlen:=hO1.sub
 have hpe:∃ R,runF f (pre n k) s = R:=⟨_,rfl⟩
 obtain ⟨R,hR⟩:=hpe
 rw [hR]
 rw [pre_eq] at hR
 obtain ⟨ad,cp,hv⟩:=HN.out.form
 clear hO1
 obtain ⟨l,hl⟩:∃ l,n.sub = l:=⟨_,rfl⟩
 rw [hl] at HN HIH HOs hlen hR hv HC
 obtain ⟨len,hnl⟩:∃ len,l.length = len:=⟨_,rfl⟩
 rw [hnl] at hlen hv
 subst hv
 have HL:=Lib.hid hnl;have HRr:=Lib.hid hR
 clear hnl hl hR
 unfold ndA at HC
 unfold ndA
 have hw1:Below w.heap.size w (w.alloc (.cells #[.int .i64 n.id,.string n.name,.int .i64 n.rep,.int .i64 n.kind,.slice ad len cp] 48)):=(Below.refl _ _).alloc (Nat.le_refl _) _
 have hrow:=heap_alloc_new w (.cells #[.int .i64 n.id,.string n.name,.int .i64 n.rep,.int .i64 n.kind,.slice ad len cp] 48)
 have HW:=Lib.hid hw1;have HR:=Lib.hid hrow
 clear hw1 hrow
 go_enter Tryz.func68,Tryz.ntmps68
 go_wp2_with fail
 refine (HC.out _ HW.out).mono ?_;rintro e w1 ⟨rfl,hi1,hk1⟩
 have rN:=hk1.keep _ _ _ _ (.inl rfl) (hMB _ w hB (Nat.le_refl _)) HR.out
 have HK:=Lib.hid ((Kp.of_below HW.out hB).trans hk1);have HI:=Lib.hid hi1;have RN:=Lib.hid rN
 clear hi1 hk1 rN HC HR HW
 cases hb:(f n k s).1 with
 | false =>
  have E:=HRr.out
  simp only [runF,hb] at E
  obtain rfl:(false,(f n k s).2) = R:=by simpa using E
  clear E hb HRr
  go_wp2_with fail
  go_ret
  exact ⟨rfl,HD _ _ _ _ HI.out (Nat.le_add_right _ _),HK.out⟩
 | true =>
  have E:=HRr.out
  simp only [runF,hb,if_true] at E
  generalize (f n k s).2 = s1 at *
  have HRr':=Lib.hid E
  clear E hb HRr
  have cN:=rowc RN.out
  go_wp2_with fail
  clear cN
  go_loopw [17] (fun i wr=>∃ (j:Nat) (s':σ),j ≤ len ∧ i = .int .i64 (j:Nat) ∧ Hid (runF f (preL (l.take j) (wrap64 (k + 1))) s1 = (true,s')) ∧ Inv (m + sizeL (l.drop j)) s' wr ∧ Kp B M w wr ∧ wr.heap[w.heap.size]? = some (.cells #[.int .i64 n.id,.string n.name,.int .i64 n.rep,.int .i64 n.kind,.slice ad len cp] 48 (0,0))) (fun i _=>len - (intOf i).toNat)
  case atStart=>exact ⟨0,s1,Nat.zero_le _,rfl,rfl,HI.out,HK.out,RN.out⟩
  case round =>
   obtain ⟨j,s',hj,rfl,HE,hi,hk,rN⟩:=hrel
   clear HI HK RN
   have HI:=Lib.hid hi;have HK:=Lib.hid hk;have RN:=Lib.hid rN
   clear hi hk rN
   by_cases hlt:j < len
   ·have hjl:j < l.length:=by rw [HL.out];exact hlt
    obtain ⟨b0,off,rfl,hPb,hb0,hat⟩:=(HN.out.belowP hP HK.out.below).at (by omega)
    obtain ⟨ux,hcx,hnx⟩:=hat j l[j] (List.getElem?_eq_getElem hjl)
    have hdr:sizeL (l.drop j) = size l[j] + sizeL (l.drop (j + 1)):=by rw [List.drop_eq_getElem_cons hjl];rfl
    have HDR:=Lib.hid hdr
    clear hdr
    have hsn:l.take (j + 1) = l.take j ++ [l[j]]:=List.take_succ_eq_append_getElem hjl
    have hOx:∀ y ∈ nodes l[j],y.Ok1:=fun y hy=>HOs.out y (nodesL_mem (List.getElem_mem hjl) hy)
    have hIx:=HIH.out l[j] (List.getElem_mem hjl)
    have hin:(j:Int) < (len:Int):=by omega
    have Hlt:=Lib.hid hlt
    have HS1:=Lib.hid hsn
    generalize l[j] = x at *
    obtain ⟨ax,cx,rfl⟩:=hnx.form
    unfold NdAt ndA at hcx
    have hBz:=Nat.le_trans hB HK.out.below.size
    have HNX:=Lib.hid hnx;have HOX:=Lib.hid hOx;have HIX:=Lib.hid hIx;have HCX:=Lib.hid hcx
    clear hat hjl hsn hnx hOx hIx hcx hPb
    have cN:=rowc RN.out
    go_wp2_with (refine wpList_load_cells rfl 48 _ rfl b0 (off + j * 5) rfl #[.int .i64 x.id,.string x.name,.int .i64 x.rep,.int .i64 x.kind,.slice ax x.sub.length cx] _ HCX.out Tryz.underlying48 rfl nd_info ?_)
    have hw2:Below wr.heap.size wr (wr.alloc (.cells #[.int .i64 x.id,.string x.name,.int .i64 x.rep,.int .i64 x.kind,.slice ax x.sub.length cx] 48)):=(Below.refl _ _).alloc (Nat.le_refl _) _
    refine (HIX.out (m + sizeL (l.drop (j + 1))) _ (wrap64 (k + 1)) s' _ (Nat.le_trans hBz hw2.size) (HA _ s' wr _ (HD _ _ _ _ HI.out (by have:=HDR.out;omega)) hBz hw2) (HNX.out.belowP hP (hw2.mono hBz)) HOX.out).mono ?_
    rintro e w3 ⟨rfl,hi3,hk3⟩
    have hk2:Kp B M wr w3:=(Kp.of_below hw2 hBz).trans hk3
    have rN:=hk2.keep _ _ _ _ (.inl rfl) (hMB _ w hB (Nat.le_refl _)) RN.out
    have HK3:=Lib.hid (HK.out.trans hk2);have RN3:=Lib.hid rN;have HI3:=Lib.hid hi3
    have hst:=run_step HE.out HS1.out
    clear hk3 hk2 rN hi3 HIX HNX HOX HCX cN HK HI RN
    cases hb:(runF f (pre x (wrap64 (k + 1))) s').1 with
    | false =>
     have E:=HRr'.out
     rw [run_stop (i:=j + 1) (by rw [hst];exact hb),hst] at E
     subst E
     have HB:=Lib.hid hb
     clear hst hb HRr'
     go_wp2_with fail
     go_ret
     exact ⟨by rw [HB.out];rfl,HD _ _ _ _ HI3.out (Nat.le_add_right _ _),HK3.out⟩
    | true =>
     have HST:=Lib.hid hst;have HB:=Lib.hid hb
     clear hst hb
     go_wp2_with fail
     go_roundw
     case rel=>exact ⟨j + 1,_,Hlt.out,by go_num,(HST.out.trans (Prod.ext HB.out rfl)),HI3.out,HK3.out,RN3.out⟩
     case measure=>have:=Hlt.out;simp [intOf];omega
   ·obtain rfl:j = len:=by omega
    have E:=HRr'.out
    have h0:=HE.out
    rw [List.take_of_length_le (Nat.le_of_eq HL.out)] at h0
    rw [h0] at E
    subst E
    clear h0 HRr'
    go_wp2_with fail
    go_ret
    exact ⟨rfl,HD _ _ _ _ HI.out (Nat.le_add_right _ _),HK.out⟩
end Go.Proofs.YtdcgihplkangeaaGreatDoor
/- Records in memory. -/
namespace Go.Proofs.YtdcgihplkangeaaGreatDoor
set_option linter.unusedVariables false
set_option linter.unusedSimpArgs false
open Go Go.RowKit Go.ChangeShapes
def dtA (d:Dt) (ul uf:Value):Array Value:=#[.bool d.no,.int .i64 d.v.k,.int .i64 d.v.n,.string d.v.s,ul,uf]
def DtAt (w:World) (b o:Nat) (d:Dt) (ul uf:Value):Prop:=∀ j v,(dtA d ul uf)[j]? = some v → w.cell? ⟨b,o + j,none⟩ = some v
inductive IsDts (P:Nat → Prop) (w:World):Value → List Dt → Prop
 | nil (ad:Option Addr) (cap:Nat):IsDts P w (.slice ad 0 cap) []
 | row (b off cap:Nat) (l:List Dt) (S T:Nat → Value) (hP:P b) (hb:b < w.heap.size) (hc:∀ j d,l[j]? = some d → DtAt w b (off + j * 6) d (S j) (T j))
   (hs:∀ j d,l[j]? = some d → IsDts P w (S j) d.l) (ht:∀ j d,l[j]? = some d → IsDts P w (T j) d.f) :
   IsDts P w (.slice (some ⟨b,off,none⟩) l.length cap) l
theorem IsDts.form {P:Nat → Prop} {w:World} {v:Value} {l:List Dt} (h:IsDts P w v l):∃ ad cap,v = .slice ad l.length cap:=by
 cases h with
 | nil ad cap=>exact ⟨ad,cap,rfl⟩
 | row b off cap l S T=>exact ⟨_,cap,rfl⟩
theorem IsDts.at {P:Nat → Prop} {w:World} {ad:Option Addr} {n cap:Nat} {l:List Dt} (h:IsDts P w (.slice ad n cap) l) (hl:0 < l.length) :
  ∃ b off,ad = some ⟨b,off,none⟩ ∧ P b ∧ b < w.heap.size ∧ ∀ j x,l[j]? = some x → ∃ u t,DtAt w b (off + j * 6) x u t ∧ IsDts P w u x.l ∧ IsDts P w t x.f:=by
 generalize hv:Value.slice ad n cap = v at h
 cases h with
 | nil ad' cap'=>simp at hl
 | row b off cap' l S T hP hb hc hs ht =>
  injection hv with e1 e2 e3
  exact ⟨b,off,e1,hP,hb,fun j x hj=>⟨S j,T j,hc j x hj,hs j x hj,ht j x hj⟩⟩
theorem IsDts.one {P:Nat → Prop} {w:World} {v:Value} {l:List Dt} (h:IsDts P w v l):v.oneCell' = true:=by
 obtain ⟨ad,cap,rfl⟩:=h.form;rfl
theorem IsDts.keep {P:Nat → Prop} {w w':World} {v:Value} {l:List Dt} (h:IsDts P w v l) (hz:w.heap.size ≤ w'.heap.size) (hk:∀ b,P b → b < w.heap.size → w'.heap[b]? = w.heap[b]?):IsDts P w' v l:=by
 induction h with
 | nil ad cap=>exact .nil ad cap
 | row b off cap l S T hP hb hc hs ht ih ih2 =>
  refine .row b off cap l S T hP (by omega) (fun j n hj k x hx=>?_) ih ih2
  rw [World.cell?_of_block (w:=w) (hk b hP hb)]
  exact hc j n hj k x hx
theorem IsDts.mono {P Q:Nat → Prop} {w:World} {v:Value} {l:List Dt} (h:IsDts P w v l) (hPQ:∀ b,P b → b < w.heap.size → Q b):IsDts Q w v l:=by
 induction h with
 | nil ad cap=>exact .nil ad cap
 | row b off cap l S T hP hb hc hs ht ih ih2=>exact .row b off cap l S T (hPQ b hP hb) hb hc ih ih2
theorem IsDts.under {B:Nat} {w w':World} {v:Value} {l:List Dt} (h:IsDts (· < B) w v l) (hb:Below B w w'):IsDts (· < B) w' v l:=h.keep hb.size fun b hP _=>hb.block b hP
theorem IsDts.belowP {B:Nat} {P:Nat → Prop} {w w':World} {v:Value} {l:List Dt} (h:IsDts P w v l) (hP:∀ b,P b → b < B) (hb:Below B w w'):IsDts P w' v l:=h.keep hb.size fun b hp _=>hb.block b (hP b hp)
mutual
def dts:Dt → List Dt
 | .mk a v l f=>.mk a v l f :: (dtsL l ++ dtsL f)
def dtsL:List Dt → List Dt
 | []=>[]
 | x :: r=>dts x ++ dtsL r
end
theorem dts_eq (d:Dt):dts d = d :: (dtsL d.l ++ dtsL d.f):=by cases d;simp only [dts];rfl
theorem dtsL_mem {x y:Dt} {l:List Dt} (hx:x ∈ l) (hy:y ∈ dts x):y ∈ dtsL l:=by
 induction l with
 | nil=>cases hx
 | cons a r ih =>
  simp only [dtsL]
  rcases List.mem_cons.1 hx with rfl | hx
  ·exact List.mem_append_left _ hy
  ·exact List.mem_append_right _ (ih hx)
theorem mem_dtsL {x:Dt}:∀ {l:List Dt},x ∈ dtsL l → ∃ y ∈ l,x ∈ dts y
 | [],h=>by simp [dtsL] at h
 | a :: r,h=>by
  simp only [dtsL] at h
  rcases List.mem_append.1 h with h | h
  ·exact ⟨a,List.mem_cons_self ..,h⟩
  ·obtain ⟨y,hy,h2⟩:=mem_dtsL h
   exact ⟨y,List.mem_cons_of_mem _ hy,h2⟩
structure Dt.Ok1 (d:Dt):Prop where
 v:d.v.Ok
 l:d.l.length * 88 ≤ 140737488355328
 f:d.f.length * 88 ≤ 140737488355328
theorem dt_info:(Tryz.prog.info? 64).map (·.size) = some 6:=by kernel_rfl
end Go.Proofs.YtdcgihplkangeaaGreatDoor
/- Records cut into columns: plain Lean: what is written leaf by leaf is what stands on the way to a leaf. -/
namespace Go.Proofs.YtdcgihplkangeaaGreatDoor
set_option linter.unusedVariables false
set_option linter.unusedSimpArgs false
open Go Go.RowKit
mutual
def lvs:Nd → Nat
 | .mk _ _ _ k l=>if k = 0 then lvsL l else 1
def lvsL:List Nd → Nat
 | []=>0
 | x :: r=>lvs x + lvsL r
end
theorem lvs_eq (n:Nd):lvs n = if n.kind = 0 then lvsL n.sub else 1:=by cases n;simp only [lvs];rfl
theorem lvsL_app (a b:List Nd):lvsL (a ++ b) = lvsL a + lvsL b:=by
 induction a with
 | nil=>simp [lvsL]
 | cons x r ih=>simp only [List.cons_append,lvsL,ih];omega
theorem lvs_le:(∀ n,lvs n ≤ size n) ∧ ∀ l,lvsL l ≤ sizeL l:=by
 refine tree2 (fun n h=>?_) (Nat.le_refl _) (fun x r h1 h2=>?_)
 ·rw [lvs_eq,size_eq];split <;> omega
 ·simp only [lvsL,sizeL];omega
structure Ent where
 r:Int
 d:Int
 v:Val
def noneE (n leaf:Nat) (e:Ent) (j:Nat):List Ent:=if leaf ≤ j ∧ j < leaf + n then [e] else []
mutual
def shE:Nd → Dt → Nat → Int → Int → Int → Bool → Nat → List Ent
 | n,.mk no v l f,leaf,rep,df,lv,one,j =>
  if one = false ∧ n.rep = 2 ∧ no = true then noneE (lvs n) leaf ⟨rep,df,zeroV⟩ j
  else if one = false ∧ n.rep = 3 then (if l.isEmpty = true then noneE (lvs n) leaf ⟨rep,df,zeroV⟩ j else shEL n l leaf rep df lv j)
  else if n.kind ≠ 0 then noneE 1 leaf ⟨rep,if one = false ∧ n.rep = 2 then df + 1 else df,v⟩ j
  else shEF n.sub f leaf rep (if one = false ∧ n.rep = 2 then df + 1 else df) lv j
def shEL:Nd → List Dt → Nat → Int → Int → Int → Nat → List Ent
 | _,[],_,_,_,_,_=>[]
 | n,x :: r,leaf,rep,df,lv,j=>shE n x leaf rep (df + 1) (lv + 1) true j ++ shEL n r leaf (lv + 1) df lv j
def shEF:List Nd → List Dt → Nat → Int → Int → Int → Nat → List Ent
 | s :: t,x :: r,leaf,rep,df,lv,j=>shE s x leaf rep df lv false j ++ shEF t r (leaf + lvs s) rep df lv j
 | [],_,_,_,_,_,_=>[]
 | _ :: _,[],_,_,_,_,_=>[]
end
theorem shE_eq (n:Nd) (d:Dt) (leaf:Nat) (rep df lv:Int) (one:Bool) (j:Nat):shE n d leaf rep df lv one j =
  if one = false ∧ n.rep = 2 ∧ d.no = true then noneE (lvs n) leaf ⟨rep,df,zeroV⟩ j
  else if one = false ∧ n.rep = 3 then (if d.l.isEmpty = true then noneE (lvs n) leaf ⟨rep,df,zeroV⟩ j else shEL n d.l leaf rep df lv j)
  else if n.kind ≠ 0 then noneE 1 leaf ⟨rep,if one = false ∧ n.rep = 2 then df + 1 else df,d.v⟩ j
  else shEF n.sub d.f leaf rep (if one = false ∧ n.rep = 2 then df + 1 else df) lv j:=by
 cases d;simp only [shE];rfl
theorem shEL_snoc (n:Nd):∀ (l:List Dt) (x:Dt) (leaf:Nat) (rep df lv:Int) (j:Nat),shEL n (l ++ [x]) leaf rep df lv j = shEL n l leaf rep df lv j ++ shE n x leaf (if l.isEmpty = true then rep else lv + 1) (df + 1) (lv + 1) true j
 | [],x,leaf,rep,df,lv,j=>by simp [shEL]
 | a :: l,x,leaf,rep,df,lv,j=>by
  simp only [List.cons_append,shEL,shEL_snoc n l x leaf (lv + 1) df lv j,List.append_assoc]
  congr 2
  cases l <;> simp
theorem shEF_snoc:∀ (s:List Nd) (l:List Dt) (n:Nd) (x:Dt) (leaf:Nat) (rep df lv:Int) (j:Nat),s.length = l.length → shEF (s ++ [n]) (l ++ [x]) leaf rep df lv j = shEF s l leaf rep df lv j ++ shE n x (leaf + lvsL s) rep df lv false j
 | [],[],n,x,leaf,rep,df,lv,j,_=>by simp [shEF,lvsL]
 | [],_ :: _,n,x,leaf,rep,df,lv,j,h=>by simp at h
 | _ :: _,[],n,x,leaf,rep,df,lv,j,h=>by simp at h
 | a :: s,b :: l,n,x,leaf,rep,df,lv,j,h=>by
  simp only [List.cons_append,shEF,lvsL]
  rw [shEF_snoc s l n x (leaf + lvs a) rep df lv j (by simpa using h),List.append_assoc,Nat.add_assoc]
theorem noneE_out {n leaf j:Nat} {e:Ent} (h:j < leaf ∨ leaf + n ≤ j):noneE n leaf e j = []:=by unfold noneE;rw [if_neg (by omega)]
theorem shE_outAll:∀ d:Dt,∀ (n:Nd) (leaf:Nat) (rep df lv:Int) (one:Bool) (j:Nat),j < leaf ∨ leaf + lvs n ≤ j → shE n d leaf rep df lv one j = []:=by
 apply Dt.ind
 intro d hl hf n leaf rep df lv one j hj
 rw [shE_eq]
 have h1:∀ (l:List Dt),(∀ x ∈ l,x ∈ d.l) → ∀ rep,shEL n l leaf rep df lv j = []:=by
  intro l
  induction l with
  | nil=>intro _ _;rfl
  | cons x r ih =>
   intro h rep
   simp only [shEL]
   rw [hl x (h x (List.mem_cons_self ..)) n leaf rep (df + 1) (lv + 1) true j hj,ih (fun y hy=>h y (List.mem_cons_of_mem _ hy))];rfl
 have h2:∀ (s:List Nd) (l:List Dt),(∀ x ∈ l,x ∈ d.f) → ∀ (leaf:Nat) (df:Int),(j < leaf ∨ leaf + lvsL s ≤ j) → shEF s l leaf rep df lv j = []:=by
  intro s
  induction s with
  | nil=>intro l _ leaf df _;cases l <;> rfl
  | cons m t ih =>
   intro l h leaf df hj2
   cases l with
   | nil=>rfl
   | cons x r =>
    simp only [shEF]
    simp only [lvsL] at hj2
    rw [hf x (h x (List.mem_cons_self ..)) m leaf rep df lv false j (by omega),ih r (fun y hy=>h y (List.mem_cons_of_mem _ hy)) (leaf + lvs m) df (by omega)];rfl
 split
 ·exact noneE_out hj
 split
 ·split
  ·exact noneE_out hj
  ·exact h1 _ (fun _ h=>h) _
 rw [lvs_eq] at hj
 split
 ·rename_i hk;rw [if_neg hk] at hj;exact noneE_out hj
 ·rename_i hk;rw [if_pos (Classical.not_not.1 hk)] at hj;exact h2 _ _ (fun _ h=>h) _ _ hj
mutual
def wgt:Dt → Nat
 | .mk _ v l f=>1 + v.s.size + wgtL l + wgtL f
def wgtL:List Dt → Nat
 | []=>0
 | x :: r=>wgt x + wgtL r
end
theorem wgt_eq (d:Dt):wgt d = 1 + d.v.s.size + wgtL d.l + wgtL d.f:=by cases d;simp only [wgt];rfl
theorem wgtL_app (a b:List Dt):wgtL (a ++ b) = wgtL a + wgtL b:=by
 induction a with
 | nil=>simp [wgtL]
 | cons x r ih=>simp only [List.cons_append,wgtL,ih];omega
theorem noneE_len (n leaf j:Nat) (e:Ent):(noneE n leaf e j).length ≤ 1:=by unfold noneE;split <;> simp
theorem shE_len:∀ d:Dt,∀ (n:Nd) (leaf:Nat) (rep df lv:Int) (one:Bool) (j:Nat),(shE n d leaf rep df lv one j).length ≤ wgt d:=by
 apply Dt.ind
 intro d hl hf n leaf rep df lv one j
 have h1:∀ (l:List Dt),(∀ x ∈ l,x ∈ d.l) → ∀ rep,(shEL n l leaf rep df lv j).length ≤ wgtL l:=by
  intro l
  induction l with
  | nil=>intro _ _;simp [shEL]
  | cons x r ih =>
   intro h rep
   simp only [shEL,wgtL,List.length_append]
   have a:=hl x (h x (List.mem_cons_self ..)) n leaf rep (df + 1) (lv + 1) true j
   have b:=ih (fun y hy=>h y (List.mem_cons_of_mem _ hy)) (lv + 1)
   omega
 have h2:∀ (s:List Nd) (l:List Dt),(∀ x ∈ l,x ∈ d.f) → ∀ (leaf:Nat) (df:Int),(shEF s l leaf rep df lv j).length ≤ wgtL l:=by
  intro s
  induction s with
  | nil=>intro l _ leaf df;cases l <;> simp [shEF]
  | cons m t ih =>
   intro l h leaf df
   cases l with
   | nil=>simp [shEF]
   | cons x r =>
    simp only [shEF,wgtL,List.length_append]
    have a:=hf x (h x (List.mem_cons_self ..)) m leaf rep df lv false j
    have b:=ih r (fun y hy=>h y (List.mem_cons_of_mem _ hy)) (leaf + lvs m) df
    omega
 rw [shE_eq,wgt_eq]
 split
 ·have:=noneE_len (lvs n) leaf j ⟨rep,df,zeroV⟩;omega
 split
 ·split
  ·have:=noneE_len (lvs n) leaf j ⟨rep,df,zeroV⟩;omega
  ·have:=h1 d.l (fun _ h=>h) rep;omega
 split
 ·have:=noneE_len 1 leaf j ⟨rep,if one = false ∧ n.rep = 2 then df + 1 else df,d.v⟩;omega
 ·have:=h2 n.sub d.f (fun _ h=>h) leaf (if one = false ∧ n.rep = 2 then df + 1 else df);omega
structure EntD where
 r:Int
 d:Int
 v:Option Val
def hdId:List Nd → Int
 | []=>-1
 | n :: _=>n.id
mutual
def docE:List Nd → Dt → Int → Int → Int → Bool → List EntD
 | [],_,_,_,_,_=>[]
 | n :: p,.mk no v l f,rep,df,lv,one =>
  if one = false ∧ n.rep = 3 then (if l.isEmpty = true then [⟨rep,df,none⟩] else docEL (n :: p) l rep df lv)
  else if one = false ∧ n.rep = 2 ∧ no = true then [⟨rep,df,none⟩]
  else if n.kind ≠ 0 then [⟨rep,if one = false ∧ n.rep = 2 then df + 1 else df,some v⟩]
  else docEF n.sub f p rep (if one = false ∧ n.rep = 2 then df + 1 else df) lv
def docEL:List Nd → List Dt → Int → Int → Int → List EntD
 | _,[],_,_,_=>[]
 | p,x :: r,rep,df,lv=>docE p x rep (df + 1) (lv + 1) true ++ docEL p r (lv + 1) df lv
def docEF:List Nd → List Dt → List Nd → Int → Int → Int → List EntD
 | s :: t,x :: r,p,rep,df,lv=>(if s.id = hdId p then docE p x rep df lv false else []) ++ docEF t r p rep df lv
 | [],_,_,_,_,_=>[]
 | _ :: _,[],_,_,_,_=>[]
end
theorem docE_eq (n:Nd) (p:List Nd) (d:Dt) (rep df lv:Int) (one:Bool):docE (n :: p) d rep df lv one =
  if one = false ∧ n.rep = 3 then (if d.l.isEmpty = true then [⟨rep,df,none⟩] else docEL (n :: p) d.l rep df lv)
  else if one = false ∧ n.rep = 2 ∧ d.no = true then [⟨rep,df,none⟩]
  else if n.kind ≠ 0 then [⟨rep,if one = false ∧ n.rep = 2 then df + 1 else df,some d.v⟩]
  else docEF n.sub d.f p rep (if one = false ∧ n.rep = 2 then df + 1 else df) lv:=by
 cases d;simp only [docE];rfl
theorem docEL_snoc (p:List Nd):∀ (l:List Dt) (x:Dt) (rep df lv:Int),docEL p (l ++ [x]) rep df lv = docEL p l rep df lv ++ docE p x (if l.isEmpty = true then rep else lv + 1) (df + 1) (lv + 1) true
 | [],x,rep,df,lv=>by simp [docEL]
 | a :: l,x,rep,df,lv=>by
  simp only [List.cons_append,docEL,docEL_snoc p l x (lv + 1) df lv,List.append_assoc]
  congr 2
  cases l <;> simp
theorem docEF_snoc:∀ (s:List Nd) (l:List Dt) (n:Nd) (x:Dt) (p:List Nd) (rep df lv:Int),s.length = l.length → docEF (s ++ [n]) (l ++ [x]) p rep df lv = docEF s l p rep df lv ++ (if n.id = hdId p then docE p x rep df lv false else [])
 | [],[],n,x,p,rep,df,lv,_=>by simp [docEF]
 | [],_ :: _,n,x,p,rep,df,lv,h=>by simp at h
 | _ :: _,[],n,x,p,rep,df,lv,h=>by simp at h
 | a :: s,b :: l,n,x,p,rep,df,lv,h=>by
  simp only [List.cons_append,docEF]
  rw [docEF_snoc s l n x p rep df lv (by simpa using h),List.append_assoc]
mutual
def chs:Nd → List (List Nd)
 | .mk a b c k l=>if k = 0 then (chsL l).map (Nd.mk a b c k l :: ·) else [[.mk a b c k l]]
def chsL:List Nd → List (List Nd)
 | []=>[]
 | x :: r=>chs x ++ chsL r
end
theorem chs_eq (n:Nd):chs n = if n.kind = 0 then (chsL n.sub).map (n :: ·) else [[n]]:=by cases n;simp only [chs];rfl
theorem chs_len:(∀ n,(chs n).length = lvs n) ∧ ∀ l,(chsL l).length = lvsL l:=by
 refine tree2 (fun n h=>?_) rfl (fun x r h1 h2=>?_)
 ·rw [chs_eq,lvs_eq];split
  ·rw [List.length_map,h]
  ·rfl
 ·simp only [chsL,lvsL,List.length_append,h1,h2]
theorem chs_head:(∀ n,∀ c ∈ chs n,∃ p,c = n :: p) ∧ ∀ l,∀ c ∈ chsL l,∃ n p,c = n :: p ∧ n ∈ l:=by
 refine tree2 (fun n h c hc=>?_) (fun c hc=>by simp [chsL] at hc) (fun x r h1 h2 c hc=>?_)
 ·rw [chs_eq] at hc
  split at hc
  ·obtain ⟨q,_,rfl⟩:=List.mem_map.1 hc;exact ⟨q,rfl⟩
  ·rw [List.mem_singleton.1 hc];exact ⟨[],rfl⟩
 ·simp only [chsL,List.mem_append] at hc
  rcases hc with hc | hc
  ·obtain ⟨p,rfl⟩:=h1 c hc;exact ⟨x,p,rfl,List.mem_cons_self ..⟩
  ·obtain ⟨n,p,rfl,hn⟩:=h2 c hc;exact ⟨n,p,rfl,List.mem_cons_of_mem _ hn⟩
theorem opts_cons (n:Nd) (h:List Nd):opts (n :: h) = (if n.rep ≠ 1 then 1 else 0) + opts h:=by
 unfold opts
 rw [List.filter_cons]
 by_cases e:n.rep = 1
 ·simp [e]
 ·simp only [e,ne_eq,not_false_eq_true,decide_true,if_true,List.length_cons];omega
theorem opts_nn (h:List Nd):0 ≤ opts h:=by unfold opts;omega
theorem reps_cons (n:Nd) (h:List Nd):reps (n :: h) = (if n.rep = 3 then 1 else 0) + reps h:=by
 unfold reps
 rw [List.filter_cons]
 by_cases e:n.rep = 3
 ·simp only [e,decide_true,if_true,List.length_cons];omega
 ·simp [e]
def lastN:List Nd → Nd
 | []=>.mk 0 ByteArray.empty 0 0 []
 | [n]=>n
 | _ :: m :: r=>lastN (m :: r)
theorem lastN_cons (n:Nd) (c:List Nd) (h:c ≠ []):lastN (n :: c) = lastN c:=by cases c with | nil=>exact absurd rfl h | cons m r=>rfl
def lvfOf (mr md:Int) (p:List Int) (c:List Nd):Lvf:=⟨(lastN c).id,(lastN c).kind,mr + reps c,md + opts c,p ++ idsOf c⟩
theorem lv_chs:(∀ n,∀ mr md p,lvN n mr md p = (chs n).map (lvfOf mr md p)) ∧ ∀ l,∀ mr md p,lvL l mr md p = (chsL l).map (lvfOf mr md p):=by
 refine tree2 (fun n h mr md p=>?_) (fun mr md p=>rfl) (fun x r h1 h2 mr md p=>?_)
 ·rw [lvN_eq,chs_eq]
  split
  ·rw [h,List.map_map]
   refine List.map_congr_left fun c hc=>?_
   obtain ⟨m,q,rfl,_⟩:=chs_head.2 n.sub c hc
   simp only [lvfOf,Function.comp,lastN_cons n (m :: q) (by simp),reps_cons n,opts_cons n,idsOf,List.map_cons,List.append_assoc,List.cons_append,List.nil_append]
   congr 1
   ·split <;> omega
   ·split <;> omega
  ·simp only [List.map_cons,List.map_nil,lvfOf,lastN,reps_cons,opts_cons,idsOf]
   congr 2
   ·simp only [reps,List.filter_nil,List.length_nil];split <;> simp
   ·simp only [opts,List.filter_nil,List.length_nil];split <;> simp
 ·simp only [lvL,chsL,List.map_append,h1,h2]
theorem leaves_chs (n:Nd):leavesN n = (chsL n.sub).map (lvfOf 0 0 []):=lv_chs.2 _ _ _ _
def entD (m:Int) (e:Ent):EntD:=⟨e.r,e.d,if e.d = m then some e.v else none⟩
def own1 (n:Nd) (one:Bool):Int:=if one = true ∧ n.rep ≠ 1 then 1 else 0
theorem doc_main:∀ d:Dt,∀ (n:Nd) (leaf:Nat) (rep df lv:Int) (one:Bool),(∀ x ∈ nodes n,okShape x = true) → ((nodes n).map Nd.id).Nodup → datE n one d = 0 →
  ∀ (i:Nat) (c:List Nd),(chs n)[i]? = some c → docE c d rep df lv one = (shE n d leaf rep df lv one (leaf + i)).map (entD (df + opts c - own1 n one)):=by
 apply Dt.ind
 intro d hl hf n leaf rep df lv one hs hn hd i c hc
 obtain ⟨p,rfl⟩:=chs_head.1 n c (List.mem_of_getElem? hc)
 have hi:i < lvs n:=by rw [← chs_len.1];exact (List.getElem?_eq_some_iff.1 hc).1
 have hon:=opts_nn p
 have hsn:=hs n (by rw [nodes_eq];exact List.mem_cons_self ..)
 rw [docE_eq,shE_eq,opts_cons]
 have hin:leaf ≤ leaf + i ∧ leaf + i < leaf + lvs n:=by omega
 by_cases h3:one = false ∧ n.rep = 3
 ·have h2:¬ (one = false ∧ n.rep = 2 ∧ d.no = true):=by omega
  rw [if_pos h3,if_neg h2,if_pos h3]
  obtain ⟨rfl,h3⟩:=h3
  by_cases he:d.l.isEmpty = true
  ·rw [if_pos he,if_pos he]
   unfold noneE own1
   rw [if_pos hin]
   simp only [List.map_cons,List.map_nil,entD]
   rw [if_neg (show ¬ df = _ by simp [h3];omega)]
  ·rw [if_neg he,if_neg he]
   have hall:∀ x ∈ d.l,datE n true x = 0:=by
    rw [datE_list h3] at hd
    split at hd
    ·split at hd
     ·omega
     ·exact datEL_zero n _ hd
    ·omega
   have key:∀ (l:List Dt),(∀ x ∈ l,x ∈ d.l) → ∀ rep:Int,docEL (n :: p) l rep df lv = (shEL n l leaf rep df lv (leaf + i)).map (entD (df + ((if n.rep ≠ 1 then 1 else 0) + opts p) - own1 n false)):=by
    intro l
    induction l with
    | nil=>intro _ _;rfl
    | cons x r ih =>
     intro h rep
     simp only [docEL,shEL,List.map_append]
     have hx:=h x (List.mem_cons_self ..)
     rw [hl x hx n leaf rep (df + 1) (lv + 1) true hs hn (hall x hx) i _ hc,ih (fun y hy=>h y (List.mem_cons_of_mem _ hy)),opts_cons]
     congr 3
     simp [own1,h3];omega
   exact key _ (fun _ h=>h) rep
 ·rw [if_neg h3]
  by_cases h2:one = false ∧ n.rep = 2 ∧ d.no = true
  ·rw [if_pos h2,if_pos h2]
   obtain ⟨rfl,h2,h4⟩:=h2
   unfold noneE own1
   rw [if_pos hin]
   simp only [List.map_cons,List.map_nil,entD]
   rw [if_neg (show ¬ df = _ by simp [h2];omega)]
  ·rw [if_neg h2,if_neg h2,if_neg h3]
   have hr1:n.rep = 1 ∨ n.rep = 2 ∨ n.rep = 3:=by
    unfold okShape at hsn
    simp only [Bool.and_eq_true,decide_eq_true_eq] at hsn
    omega
   have hlo:lonely n one d:=by
    unfold lonely
    cases one with
    | true=>exact .inl rfl
    | false =>
     refine .inr ?_
     simp only [true_and,not_and,Bool.not_eq_true] at h2 h3
     rcases hr1 with h | h | h
     ·exact .inl h
     ·exact .inr ⟨h,h2 h⟩
     ·exact absurd h h3
   have hup:df + ((if n.rep ≠ 1 then 1 else 0) + opts p) - own1 n one = (if one = false ∧ n.rep = 2 then df + 1 else df) + opts p:=by
    unfold own1
    cases one with
    | true=>simp;split <;> omega
    | false =>
     simp only [true_and] at h3
     rcases hr1 with h | h | h
     ·simp [h]
     ·simp [h];omega
     ·exact absurd h h3
   rw [hup]
   by_cases hk:n.kind = 0
   ·rw [if_neg (show ¬ (n.kind ≠ 0) from fun h=>h hk),if_neg (show ¬ (n.kind ≠ 0) from fun h=>h hk)]
    rw [datE_group hlo hk] at hd
    have hdF:d.f.length = n.sub.length ∧ datEF n.sub d.f = 0:=by
     split at hd
     ·split at hd
      ·exact ⟨by assumption,hd⟩
      ·omega
     ·omega
    rw [chs_eq,if_pos hk,List.getElem?_map] at hc
    obtain ⟨q,hq,hqe⟩:=Option.map_eq_some_iff.1 hc
    injection hqe with _ hqe
    subst hqe
    have hss:∀ x ∈ nodesL n.sub,okShape x = true:=fun x hx=>hs x (by rw [nodes_eq];exact List.mem_cons_of_mem _ hx)
    have hns:((nodesL n.sub).map Nd.id).Nodup:=by rw [nodes_eq,List.map_cons,List.nodup_cons] at hn;exact hn.2
    generalize (if one = false ∧ n.rep = 2 then df + 1 else df) = df2
    have hz:=datEF_zero _ _ hdF.2
    have hlen:=hdF.1
    clear hdF hd hs hn hup hon hl hin hi hc hsn hlo
    -- over the fields
    have key:∀ (s:List Nd) (l:List Dt),s.length = l.length → (∀ x ∈ l,x ∈ d.f) → (∀ (k:Nat) (m:Nd) (x:Dt),s[k]? = some m → l[k]? = some x → datE m false x = 0) → (∀ x ∈ nodesL s,okShape x = true) → ((nodesL s).map Nd.id).Nodup →
      ∀ (leaf i:Nat),(chsL s)[i]? = some q → docEF s l q rep df2 lv = (shEF s l leaf rep df2 lv (leaf + i)).map (entD (df2 + opts q)):=by
     intro s
     induction s with
     | nil=>intro l _ _ _ _ _ leaf i h;simp [chsL] at h
     | cons m t ih =>
      intro l hsl hin hz hok hnd leaf i hq
      cases l with
      | nil=>simp at hsl
      | cons x r =>
       simp only [docEF,shEF,List.map_append]
       simp only [chsL] at hq
       simp only [nodesL,List.map_append] at hnd
       rw [List.nodup_append] at hnd
       obtain ⟨hn1,hn2,hn3⟩:=hnd
       have hz0:=hz 0 m x rfl rfl
       have hok1:∀ y ∈ nodes m,okShape y = true:=fun y hy=>hok y (by simp only [nodesL];exact List.mem_append_left _ hy)
       have hok2:∀ y ∈ nodesL t,okShape y = true:=fun y hy=>hok y (by simp only [nodesL];exact List.mem_append_right _ hy)
       have mem_self:∀ y:Nd,y ∈ nodes y:=fun y=>by rw [nodes_eq];exact List.mem_cons_self ..
       have mem_sub:∀ y ∈ t,y ∈ nodesL t:=fun y hy=>nodesL_mem hy (mem_self y)
       rcases Nat.lt_or_ge i (lvs m) with hlt | hge
       ·rw [List.getElem?_append_left (by rw [chs_len.1];exact hlt)] at hq
        obtain ⟨p',rfl⟩:=chs_head.1 m q (List.mem_of_getElem? hq)
        rw [if_pos (show m.id = hdId (m :: p') from rfl),hf x (hin x (List.mem_cons_self ..)) m leaf rep df2 lv false hok1 hn1 hz0 i _ hq]
        have e0:docEF t r (m :: p') rep df2 lv = []:=by
         have:∀ (t:List Nd) (r:List Dt),(∀ y ∈ t,y.id ≠ m.id) → docEF t r (m :: p') rep df2 lv = []:=by
          intro t
          induction t with
          | nil=>intro r _;cases r <;> rfl
          | cons y t ih2 =>
           intro r hy
           cases r with
           | nil=>rfl
           | cons z r =>
            simp only [docEF]
            rw [if_neg (show ¬ y.id = hdId (m :: p') from hy y (List.mem_cons_self ..)),ih2 r fun a ha=>hy a (List.mem_cons_of_mem _ ha)];rfl
         exact this t r fun y hy e=>hn3 m.id (List.mem_map.2 ⟨m,mem_self m,rfl⟩) y.id (List.mem_map.2 ⟨y,mem_sub y hy,rfl⟩) e.symm
        have e1:shEF t r (leaf + lvs m) rep df2 lv (leaf + i) = []:=by
         have:∀ (t:List Nd) (r:List Dt) (lf:Nat),leaf + i < lf → shEF t r lf rep df2 lv (leaf + i) = []:=by
          intro t
          induction t with
          | nil=>intro r lf _;cases r <;> rfl
          | cons y t ih2 =>
           intro r lf hlf
           cases r with
           | nil=>rfl
           | cons z r =>
            simp only [shEF]
            rw [shE_outAll z y lf rep df2 lv false _ (.inl hlf),ih2 r (lf + lvs y) (by omega)];rfl
         exact this t r _ (by omega)
        rw [e0,e1]
        simp [own1]
       ·rw [List.getElem?_append_right (by rw [chs_len.1];exact hge),chs_len.1] at hq
        obtain ⟨m2,p',rfl,hm2⟩:=chs_head.2 t q (List.mem_of_getElem? hq)
        have hne:¬ m.id = hdId (m2 :: p'):=fun e=>hn3 m.id (List.mem_map.2 ⟨m,mem_self m,rfl⟩) m2.id (List.mem_map.2 ⟨m2,mem_sub m2 hm2,rfl⟩) e
        rw [if_neg hne,shE_outAll x m leaf rep df2 lv false _ (.inr (by omega))]
        have:=ih r (by simpa using hsl) (fun y hy=>hin y (List.mem_cons_of_mem _ hy)) (fun k a b ha hb=>hz (k + 1) a b (by simpa using ha) (by simpa using hb)) hok2 hn2 (leaf + lvs m) (i - lvs m) hq
        rw [this,show leaf + lvs m + (i - lvs m) = leaf + i by omega]
        simp
    exact key n.sub d.f hlen.symm (fun _ h=>h) hz hss hns leaf i hq
   ·rw [if_pos (show n.kind ≠ 0 from hk),if_pos (show n.kind ≠ 0 from hk)]
    rw [chs_eq,if_neg hk] at hc
    have hc':=(List.getElem?_eq_some_iff.1 hc)
    obtain ⟨h0,h1⟩:=hc'
    have hi0:i = 0:=by simp at h0;exact h0
    subst hi0
    simp at h1
    subst h1
    unfold noneE
    rw [if_pos (show leaf ≤ leaf + 0 ∧ leaf + 0 < leaf + 1 by omega)]
    simp [entD,opts]
theorem shEL_app (n:Nd):∀ (a b:List Dt) (leaf:Nat) (rep df lv:Int) (j:Nat),shEL n (a ++ b) leaf rep df lv j = shEL n a leaf rep df lv j ++ shEL n b leaf (if a.isEmpty = true then rep else lv + 1) df lv j
 | [],b,leaf,rep,df,lv,j=>by simp [shEL]
 | x :: a,b,leaf,rep,df,lv,j=>by
  simp only [List.cons_append,shEL,shEL_app n a b leaf (lv + 1) df lv j,List.append_assoc]
  congr 2
  cases a <;> simp
theorem shEF_app:∀ (s t:List Nd) (a b:List Dt) (leaf:Nat) (rep df lv:Int) (j:Nat),s.length = a.length → shEF (s ++ t) (a ++ b) leaf rep df lv j = shEF s a leaf rep df lv j ++ shEF t b (leaf + lvsL s) rep df lv j
 | [],t,[],b,leaf,rep,df,lv,j,_=>by simp [shEF,lvsL]
 | [],t,_ :: _,b,leaf,rep,df,lv,j,h=>by simp at h
 | _ :: _,t,[],b,leaf,rep,df,lv,j,h=>by simp at h
 | m :: s,t,x :: a,b,leaf,rep,df,lv,j,h=>by
  simp only [List.cons_append,shEF,lvsL]
  rw [shEF_app s t a b (leaf + lvs m) rep df lv j (by simpa using h),List.append_assoc,Nat.add_assoc]
theorem shEL_up (n:Nd) {l:List Dt} {k:Nat} {x:Dt} (h:l[k]? = some x) (leaf:Nat) (rep df lv:Int) (j:Nat) :
  shEL n (l.take (k + 1)) leaf rep df lv j = shEL n (l.take k) leaf rep df lv j ++ shE n x leaf (if k = 0 then rep else lv + 1) (df + 1) (lv + 1) true j ∧
  (shEL n (l.take k) leaf rep df lv j).length + (shE n x leaf (if k = 0 then rep else lv + 1) (df + 1) (lv + 1) true j).length ≤ (shEL n l leaf rep df lv j).length:=by
 have hk:=(List.getElem?_eq_some_iff.1 h).1
 have e1:l.take (k + 1) = l.take k ++ [x]:=by rw [List.take_add_one,h];rfl
 have e2:(l.take k).isEmpty = true ↔ k = 0:=by
  rw [List.isEmpty_iff]
  constructor
  ·intro h2
   have:=congrArg List.length h2
   rw [List.length_take,List.length_nil] at this
   omega
  ·intro h2;subst h2;rfl
 have a:shEL n (l.take (k + 1)) leaf rep df lv j = shEL n (l.take k) leaf rep df lv j ++ shE n x leaf (if k = 0 then rep else lv + 1) (df + 1) (lv + 1) true j:=by
  rw [e1,shEL_snoc]
  congr 2
  by_cases hz:k = 0
  ·rw [if_pos hz,if_pos (e2.2 hz)]
  ·rw [if_neg hz,if_neg (fun q=>hz (e2.1 q))]
 refine ⟨a,?_⟩
 have b:=shEL_app n (l.take (k + 1)) (l.drop (k + 1)) leaf rep df lv j
 rw [List.take_append_drop,a] at b
 have c:=congrArg List.length b
 simp only [List.length_append] at c
 omega
theorem shEF_up {s:List Nd} {l:List Dt} {k:Nat} {m:Nd} {x:Dt} (hs:s[k]? = some m) (h:l[k]? = some x) (hsl:s.length = l.length) (leaf:Nat) (rep df lv:Int) (j:Nat) :
  shEF (s.take (k + 1)) (l.take (k + 1)) leaf rep df lv j = shEF (s.take k) (l.take k) leaf rep df lv j ++ shE m x (leaf + lvsL (s.take k)) rep df lv false j ∧
  (shEF (s.take k) (l.take k) leaf rep df lv j).length + (shE m x (leaf + lvsL (s.take k)) rep df lv false j).length ≤ (shEF s l leaf rep df lv j).length:=by
 have hk:=(List.getElem?_eq_some_iff.1 h).1
 have e1:l.take (k + 1) = l.take k ++ [x]:=by rw [List.take_add_one,h];rfl
 have e2:s.take (k + 1) = s.take k ++ [m]:=by rw [List.take_add_one,hs];rfl
 have a:shEF (s.take (k + 1)) (l.take (k + 1)) leaf rep df lv j = shEF (s.take k) (l.take k) leaf rep df lv j ++ shE m x (leaf + lvsL (s.take k)) rep df lv false j:=by
  rw [e1,e2,shEF_snoc _ _ _ _ _ _ _ _ _ (by simp [List.length_take,hsl])]
 refine ⟨a,?_⟩
 have b:=shEF_app (s.take (k + 1)) (s.drop (k + 1)) (l.take (k + 1)) (l.drop (k + 1)) leaf rep df lv j (by simp [List.length_take,hsl])
 rw [List.take_append_drop,List.take_append_drop,a] at b
 have c:=congrArg List.length b
 simp only [List.length_append] at c
 omega
theorem wgtL_mem {x:Dt} {l:List Dt} (h:x ∈ l):wgt x ≤ wgtL l:=by
 induction l with
 | nil=>cases h
 | cons y r ih =>
  simp only [wgtL]
  rcases List.mem_cons.1 h with rfl | h
  ·omega
  ·have:=ih h;omega
end Go.Proofs.YtdcgihplkangeaaGreatDoor
