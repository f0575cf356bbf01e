/- Trees of nodes in memory; the walk of schema.walk, whatever it shows each node to. -/
import Derived.Test.YtkmhmnffbgedgaaDoorTr0
import Derived.Test.YtkmhmnffbgedgaaDoorMRow
import Derived.Test.YtkmhmnffbgedgaaDoorRows
import Derived.Deep.RegionHeld3
import Derived.BigQuiet
import Derived.Deep.DeepCutAuto
import Derived.Shelf.Abstract
import Derived.Test.YtkmhmnffbgedgaaDoorShelf
import Derived.Shelf.Strings.SlTrimAscii
import Derived.Deep.AppendLies
namespace Go.Proofs.YtkmhmnffbgedgaaDoor
set_option maxHeartbeats 8000000
set_option linter.unusedVariables false
set_option linter.unusedSimpArgs false
open Go Go.RowKit Go.ChangeShapes
def ndA (n:Nd) (u:Value):Array Value:=#[.int .i64 n.id,.string n.name,.int .i64 n.rep,.int .i64 n.kind,u]
def NdAt (w:World) (b o:Nat) (n:Nd) (u:Value):Prop:=∀ j v,(ndA n u)[j]? = some v → w.cell? ⟨b,o + j,none⟩ = some v
inductive IsNds (P:Nat → Prop) (w:World):Value → List Nd → Prop
 | nil (ad:Option Addr) (cap:Nat):IsNds P w (.slice ad 0 cap) []
 | row (b off cap:Nat) (l:List Nd) (S:Nat → Value) (hP:P b) (hb:b < w.heap.size) (hc:∀ j n,l[j]? = some n → NdAt w b (off + j * 5) n (S j)) (hs:∀ j n,l[j]? = some n → IsNds P w (S j) n.sub) :
   IsNds P w (.slice (some ⟨b,off,none⟩) l.length cap) l
theorem IsNds.form {P:Nat → Prop} {w:World} {v:Value} {l:List Nd} (h:IsNds P w v l):∃ ad cap,v = .slice ad l.length cap:=by
 cases h with
 | nil ad cap=>exact ⟨ad,cap,rfl⟩
 | row b off cap l S=>exact ⟨_,cap,rfl⟩
theorem IsNds.at {P:Nat → Prop} {w:World} {ad:Option Addr} {n cap:Nat} {l:List Nd} (h:IsNds P w (.slice ad n cap) l) (hl:0 < l.length) :
  ∃ b off,ad = some ⟨b,off,none⟩ ∧ P b ∧ b < w.heap.size ∧ ∀ j x,l[j]? = some x → ∃ u,NdAt w b (off + j * 5) x u ∧ IsNds P w u x.sub:=by
 generalize hv:Value.slice ad n cap = v at h
 cases h with
 | nil ad' cap'=>simp at hl
 | row b off cap' l S hP hb hc hs =>
  injection hv with e1 e2 e3
  exact ⟨b,off,e1,hP,hb,fun j x hj=>⟨S j,hc j x hj,hs j x hj⟩⟩
theorem IsNds.one {P:Nat → Prop} {w:World} {v:Value} {l:List Nd} (h:IsNds P w v l):v.oneCell' = true:=by
 obtain ⟨ad,cap,rfl⟩:=h.form;rfl
theorem IsNds.keep {P:Nat → Prop} {w w':World} {v:Value} {l:List Nd} (h:IsNds P w v l) (hz:w.heap.size ≤ w'.heap.size) (hk:∀ b,P b → b < w.heap.size → w'.heap[b]? = w.heap[b]?):IsNds P w' v l:=by
 induction h with
 | nil ad cap=>exact .nil ad cap
 | row b off cap l S hP hb hc hs ih =>
  refine .row b off cap l S hP (by omega) (fun j n hj k x hx=>?_) ih
  rw [World.cell?_of_block (w:=w) (hk b hP hb)]
  exact hc j n hj k x hx
theorem IsNds.mono {P Q:Nat → Prop} {w:World} {v:Value} {l:List Nd} (h:IsNds P w v l) (hPQ:∀ b,P b → b < w.heap.size → Q b):IsNds Q w v l:=by
 induction h with
 | nil ad cap=>exact .nil ad cap
 | row b off cap l S hP hb hc hs ih=>exact .row b off cap l S (hPQ b hP hb) hb hc ih
theorem IsNds.under {B:Nat} {w w':World} {v:Value} {l:List Nd} (h:IsNds (· < B) w v l) (hb:Below B w w'):IsNds (· < B) w' v l:=h.keep hb.size fun b hP _=>hb.block b hP
theorem IsNds.belowP {B:Nat} {P:Nat → Prop} {w w':World} {v:Value} {l:List Nd} (h:IsNds P w v l) (hP:∀ b,P b → b < B) (hb:Below B w w'):IsNds P w' v l:=h.keep hb.size fun b hp _=>hb.block b (hP b hp)
structure Nd.Ok1 (n:Nd):Prop where
 id0:-9223372036854775808 ≤ n.id
 id1:n.id < 9223372036854775808
 r0:-9223372036854775808 ≤ n.rep
 r1:n.rep < 9223372036854775808
 k0:-9223372036854775808 ≤ n.kind
 k1:n.kind < 9223372036854775808
 name:n.name.size ≤ 9223372036854775807
 sub:n.sub.length * 64 ≤ 140737488355328
theorem nd_info:(Tryd.prog.info? 47).map (·.size) = some 5:=by kernel_rfl
theorem own_blw {w w':World} {B n s:Nat} {e:TypeId} {v:Value} {xs:List Value} (h:w.ownsRow B e s v n xs) (hb:Below w.heap.size w w'):w'.ownsRow B e s v n xs:=by
 refine ⟨h.1,?_⟩
 rcases h.2 with h0 | ⟨g,cap,cur,hv,h1,h2,h3⟩
 ·exact .inl h0
 ·exact .inr ⟨g,cap,cur,hv,h1,(hb.block g (Array.getElem?_eq_some_iff.1 h2).1).trans h2,h3⟩
structure Kp (B:Nat) (M:Nat → Prop) (w w':World):Prop where
 below:Below B w w'
 keep:∀ (g:Nat) (cs:Array Value) (T:TypeId) (fz:Nat × Nat),T = 47 ∨ T = 49 → ¬ M g → w.heap[g]? = some (.cells cs T fz) → w'.heap[g]? = some (.cells cs T fz)
theorem Kp.refl (B:Nat) (M:Nat → Prop) (w:World):Kp B M w w:=⟨Below.refl _ _,fun _ _ _ _ _ _ h=>h⟩
theorem Kp.trans {B:Nat} {M:Nat → Prop} {a b c:World} (h:Kp B M a b) (k:Kp B M b c):Kp B M a c:=⟨h.below.trans k.below,fun g cs T fz hT hM hg=>k.keep g cs T fz hT hM (h.keep g cs T fz hT hM hg)⟩
theorem Kp.of_below {B:Nat} {M:Nat → Prop} {w w':World} (h:Below w.heap.size w w') (hB:B ≤ w.heap.size):Kp B M w w':=⟨h.mono hB,fun g cs T fz _ _ hg=>row_keep h hg⟩
theorem Kp.alloc {B:Nat} {M:Nat → Prop} {a w:World} (h:Kp B M a w) (hB:B ≤ w.heap.size) (o:Obj):Kp B M a (w.alloc o):=h.trans (.of_below ((Below.refl _ _).alloc (Nat.le_refl _) o) hB)
theorem nodesL_mem {x y:Nd} {l:List Nd} (hx:x ∈ l) (hy:y ∈ nodes x):y ∈ nodesL l:=by
 induction l with
 | nil=>simp at hx
 | cons z r ih =>
  simp only [nodesL,List.mem_append]
  rcases List.mem_cons.1 hx with rfl | hx
  ·exact .inl hy
  ·exact .inr (ih hx)
theorem run_step {σ:Type} {f:Nd → Int → σ → Bool × σ} {l:List Nd} {j:Nat} {k:Int} {s1 s':σ} {x:Nd} (h:runF f (preL (l.take j) k) s1 = (true,s')) (hs:l.take (j + 1) = l.take j ++ [x]) :
  runF f (preL (l.take (j + 1)) k) s1 = runF f (pre x k) s':=by
 rw [hs,preL_app,runF_app,h];simp [preL]
theorem run_stop {σ:Type} {f:Nd → Int → σ → Bool × σ} {l:List Nd} {i:Nat} {k:Int} {s1:σ} (h:(runF f (preL (l.take i) k) s1).1 = false):runF f (preL l k) s1 = runF f (preL (l.take i) k) s1:=by
 have e:preL l k = preL (l.take i) k ++ preL (l.drop i) k:=by rw [← preL_app,List.take_append_drop]
 rw [e,runF_app,if_neg (by simp [h])]
 exact Prod.ext h.symm rfl
def SeeAt (B:Nat) (P M:Nat → Prop) {σ:Type} (Inv:Nat → σ → World → Prop) (f:Nd → Int → σ → Bool × σ) (g:Nat) (lb:Array Value):Prop :=
 ∀ (m:Nat) (n:Nd) (u:Value) (k:Int) (s:σ) (w:World),B ≤ w.heap.size → Inv (m + 1) s w → IsNds P w u n.sub → (∀ x ∈ nodes n,x.Ok1) →
  Calls Tryd.prog g (#[.agg (ndA n u),.int .i64 k] ++ lb) w fun e w'=>e = .returned (.bool (f n k s).1) ∧ Inv m (f n k s).2 w' ∧ Kp B M w w'
set_option maxRecDepth 100000 in
theorem walk_any {σ:Type} (B:Nat) (P M:Nat → Prop) (Inv:Nat → σ → World → Prop) (f:Nd → Int → σ → Bool × σ) (g:Nat) (lb:Array Value)
  (eg:∀ args w,(callFunc g args).run Tryd.prog w = .ok (.enter g args) w) (hP:∀ b,P b → b < B) (hMB:∀ (b:Nat) (w:World),B ≤ w.heap.size → w.heap.size ≤ b → ¬ M b)
  (HA:∀ m s w w',Inv m s w → B ≤ w.heap.size → Below w.heap.size w w' → Inv m s w') (HD:∀ m m' s w,Inv m s w → m' ≤ m → Inv m' s w)
  (HS:SeeAt B P M Inv f g lb) :
  ∀ (n:Nd),∀ (m:Nat) (u:Value) (k:Int) (s:σ) (w:World),B ≤ w.heap.size → Inv (m + size n) s w → IsNds P w u n.sub → (∀ x ∈ nodes n,x.Ok1) →
   Calls Tryd.prog 55 #[.agg (ndA n u),.int .i64 k,.func (.func g) #[] lb] w fun e w'=>e = .returned (.bool (runF f (pre n k) s).1) ∧ Inv m (runF f (pre n k) s).2 w' ∧ Kp B M w w':=by
 apply Nd.ind
 intro n IH m u k s w hB hI hN hO
 have hI':Inv (m + sizeL n.sub + 1) s w:=by rw [size_eq] at hI;exact HD _ _ _ _ hI (by omega)
 clear hI
 have hO1:=hO n (by rw [nodes_eq];exact List.mem_cons_self ..)
 have hOs:∀ x ∈ nodesL n.sub,x.Ok1:=fun x hx=>hO x (by rw [nodes_eq];exact List.mem_cons_of_mem _ hx)
 have HIH:=Lib.hid IH;have HOs:=Lib.hid hOs
 have HC:=Lib.hid (fun (w1:World) (hw:Below w.heap.size w w1)=>HS (m + sizeL n.sub) n u k s w1 (Nat.le_trans hB hw.size) (HA _ s w w1 hI' hB hw) (hN.belowP hP (hw.mono hB)) hO)
 have HN:=Lib.hid hN
 clear IH hO hOs hI' hN
 have hlen:=hO1.sub
 have hpe:∃ R,runF f (pre n k) s = R:=⟨_,rfl⟩
 obtain ⟨R,hR⟩:=hpe
 rw [hR]
 rw [pre_eq] at hR
 obtain ⟨ad,cp,hv⟩:=HN.out.form
 clear hO1
 obtain ⟨l,hl⟩:∃ l,n.sub = l:=⟨_,rfl⟩
 rw [hl] at HN HIH HOs hlen hR hv HC
 obtain ⟨len,hnl⟩:∃ len,l.length = len:=⟨_,rfl⟩
 rw [hnl] at hlen hv
 subst hv
 have HL:=Lib.hid hnl;have HRr:=Lib.hid hR
 clear hnl hl hR
 unfold ndA at HC
 unfold ndA
 have hw1:Below w.heap.size w (w.alloc (.cells #[.int .i64 n.id,.string n.name,.int .i64 n.rep,.int .i64 n.kind,.slice ad len cp] 47)):=(Below.refl _ _).alloc (Nat.le_refl _) _
 have hrow:=heap_alloc_new w (.cells #[.int .i64 n.id,.string n.name,.int .i64 n.rep,.int .i64 n.kind,.slice ad len cp] 47)
 have HW:=Lib.hid hw1;have HR:=Lib.hid hrow
 clear hw1 hrow
 go_enter Tryd.func55,Tryd.ntmps55
 go_wp2_with fail
 refine (HC.out _ HW.out).mono ?_;rintro e w1 ⟨rfl,hi1,hk1⟩
 have rN:=hk1.keep _ _ _ _ (.inl rfl) (hMB _ w hB (Nat.le_refl _)) HR.out
 have HK:=Lib.hid ((Kp.of_below HW.out hB).trans hk1);have HI:=Lib.hid hi1;have RN:=Lib.hid rN
 clear hi1 hk1 rN HC HR HW
 cases hb:(f n k s).1 with
 | false =>
  have E:=HRr.out
  simp only [runF,hb] at E
  obtain rfl:(false,(f n k s).2) = R:=by simpa using E
  clear E hb HRr
  go_wp2_with fail
  go_ret
  exact ⟨rfl,HD _ _ _ _ HI.out (Nat.le_add_right _ _),HK.out⟩
 | true =>
  have E:=HRr.out
  simp only [runF,hb,if_true] at E
  generalize (f n k s).2 = s1 at *
  have HRr':=Lib.hid E
  clear E hb HRr
  have cN:=rowc RN.out
  go_wp2_with fail
  clear cN
  go_loopw [17] (fun i wr=>∃ (j:Nat) (s':σ),j ≤ len ∧ i = .int .i64 (j:Nat) ∧ Hid (runF f (preL (l.take j) (wrap64 (k + 1))) s1 = (true,s')) ∧ Inv (m + sizeL (l.drop j)) s' wr ∧ Kp B M w wr ∧ wr.heap[w.heap.size]? = some (.cells #[.int .i64 n.id,.string n.name,.int .i64 n.rep,.int .i64 n.kind,.slice ad len cp] 47 (0,0))) (fun i _=>len - (intOf i).toNat)
  case atStart=>exact ⟨0,s1,Nat.zero_le _,rfl,rfl,HI.out,HK.out,RN.out⟩
  case round =>
   obtain ⟨j,s',hj,rfl,HE,hi,hk,rN⟩:=hrel
   clear HI HK RN
   have HI:=Lib.hid hi;have HK:=Lib.hid hk;have RN:=Lib.hid rN
   clear hi hk rN
   by_cases hlt:j < len
   ·have hjl:j < l.length:=by rw [HL.out];exact hlt
    obtain ⟨b0,off,rfl,hPb,hb0,hat⟩:=(HN.out.belowP hP HK.out.below).at (by omega)
    obtain ⟨ux,hcx,hnx⟩:=hat j l[j] (List.getElem?_eq_getElem hjl)
    have hdr:sizeL (l.drop j) = size l[j] + sizeL (l.drop (j + 1)):=by rw [List.drop_eq_getElem_cons hjl];rfl
    have HDR:=Lib.hid hdr
    clear hdr
    have hsn:l.take (j + 1) = l.take j ++ [l[j]]:=List.take_succ_eq_append_getElem hjl
    have hOx:∀ y ∈ nodes l[j],y.Ok1:=fun y hy=>HOs.out y (nodesL_mem (List.getElem_mem hjl) hy)
    have hIx:=HIH.out l[j] (List.getElem_mem hjl)
    have hin:(j:Int) < (len:Int):=by omega
    have Hlt:=Lib.hid hlt
    have HS1:=Lib.hid hsn
    generalize l[j] = x at *
    obtain ⟨ax,cx,rfl⟩:=hnx.form
    unfold NdAt ndA at hcx
    have hBz:=Nat.le_trans hB HK.out.below.size
    have HNX:=Lib.hid hnx;have HOX:=Lib.hid hOx;have HIX:=Lib.hid hIx;have HCX:=Lib.hid hcx
    clear hat hjl hsn hnx hOx hIx hcx hPb
    have cN:=rowc RN.out
    go_wp2_with (refine wpList_load_cells rfl 47 _ rfl b0 (off + j * 5) rfl #[.int .i64 x.id,.string x.name,.int .i64 x.rep,.int .i64 x.kind,.slice ax x.sub.length cx] _ HCX.out Tryd.underlying47 rfl nd_info ?_)
    have hw2:Below wr.heap.size wr (wr.alloc (.cells #[.int .i64 x.id,.string x.name,.int .i64 x.rep,.int .i64 x.kind,.slice ax x.sub.length cx] 47)):=(Below.refl _ _).alloc (Nat.le_refl _) _
    refine (HIX.out (m + sizeL (l.drop (j + 1))) _ (wrap64 (k + 1)) s' _ (Nat.le_trans hBz hw2.size) (HA _ s' wr _ (HD _ _ _ _ HI.out (by have:=HDR.out;omega)) hBz hw2) (HNX.out.belowP hP (hw2.mono hBz)) HOX.out).mono ?_
    rintro e w3 ⟨rfl,hi3,hk3⟩
    have hk2:Kp B M wr w3:=(Kp.of_below hw2 hBz).trans hk3
    have rN:=hk2.keep _ _ _ _ (.inl rfl) (hMB _ w hB (Nat.le_refl _)) RN.out
    have HK3:=Lib.hid (HK.out.trans hk2);have RN3:=Lib.hid rN;have HI3:=Lib.hid hi3
    have hst:=run_step HE.out HS1.out
    clear hk3 hk2 rN hi3 HIX HNX HOX HCX cN HK HI RN
    cases hb:(runF f (pre x (wrap64 (k + 1))) s').1 with
    | false =>
     have E:=HRr'.out
     rw [run_stop (i:=j + 1) (by rw [hst];exact hb),hst] at E
     subst E
     have HB:=Lib.hid hb
     clear hst hb HRr'
     go_wp2_with fail
     go_ret
     exact ⟨by rw [HB.out];rfl,HD _ _ _ _ HI3.out (Nat.le_add_right _ _),HK3.out⟩
    | true =>
     have HST:=Lib.hid hst;have HB:=Lib.hid hb
     clear hst hb
     go_wp2_with fail
     go_roundw
     case rel=>exact ⟨j + 1,_,Hlt.out,by go_num,(HST.out.trans (Prod.ext HB.out rfl)),HI3.out,HK3.out,RN3.out⟩
     case measure=>have:=Hlt.out;simp [intOf];omega
   ·obtain rfl:j = len:=by omega
    have E:=HRr'.out
    have h0:=HE.out
    rw [List.take_of_length_le (Nat.le_of_eq HL.out)] at h0
    rw [h0] at E
    subst E
    clear h0 HRr'
    go_wp2_with fail
    go_ret
    exact ⟨rfl,HD _ _ _ _ HI.out (Nat.le_add_right _ _),HK.out⟩
end Go.Proofs.YtkmhmnffbgedgaaDoor
/- The walks of schema.all and of the first closures of schema.Valid. -/
namespace Go.Proofs.YtkmhmnffbgedgaaDoor
set_option maxHeartbeats 4000000
set_option linter.unusedVariables false
set_option linter.unusedSimpArgs false
open Go Go.RowKit Go.ChangeShapes
def ManyAt (b:Nat) (s:Int) (w:World):Prop:=w.heap[b]? = some (.cells #[.int .i64 s] 3 (0,0))
theorem Kp.setCell {B:Nat} {M:Nat → Prop} {a w:World} {b:Nat} {cs:Array Value} {T:TypeId} {o:Nat} {y:Value} (h:Kp B M a w) (hb:B ≤ b) (hT:T ≠ 47 ∧ T ≠ 49) (hI:w.heap[b]? = some (.cells cs T (0,0))):Kp B M a (w.setCell ⟨b,o,none⟩ y):=by
 refine h.trans ⟨(Below.refl _ _).setCell hb _,fun g cs' T' fz hT' _ hg=>?_⟩
 have hne:g ≠ b:=by
  rintro rfl
  rw [hI] at hg
  injection hg with hg
  injection hg with e1 e2
  subst e2
  rcases hT' with h | h
  ·exact hT.1 h
  ·exact hT.2 h
 exact (heap_setCell_other w ⟨b,o,none⟩ g y hne).trans hg
set_option maxRecDepth 100000 in
theorem valid1_any (B:Nat) (P:Nat → Prop) (b:Nat) (hb:B ≤ b):SeeAt B P (fun _=>False) (fun _=>ManyAt b) cntF 66 #[.pointer (some ⟨b,0,none⟩)]:=by
 intro m n u k s w hB hI hN hO
 obtain ⟨ad,cp,rfl⟩:=hN.form
 unfold ManyAt at hI
 have HI0:=Lib.hid hI
 clear hI hO hN
 unfold ndA at *
 go_enter Tryd.func66,Tryd.ntmps66
 go_upto_region 1 with fail
 have hw:Below w.heap.size w (w.alloc (.cells #[.int .i64 n.id,.string n.name,.int .i64 n.rep,.int .i64 n.kind,.slice ad n.sub.length cp] 47)):=(Below.refl _ _).alloc (Nat.le_refl _) _
 have HK:=Lib.hid (Kp.of_below (B:=B) (M:=fun _=>False) hw hB)
 have hI2:=row_keep hw HI0.out
 clear HI0 hw
 generalize (w.alloc (.cells #[.int .i64 n.id,.string n.name,.int .i64 n.rep,.int .i64 n.kind,.slice ad n.sub.length cp] 47)) = w1 at *
 have HI:=Lib.hid hI2
 have c1:=rowc hI2;have f1:=rowf hI2
 clear hI2
 by_cases h1:wrap64 (s + 1) ≤ 40
 ·have d1:decide (wrap64 (s + 1) ≤ 40) = true:=decide_eq_true h1
  go_wp2_with fail
  go_ret
  refine ⟨?_,by rw [ManyAt,heap_setCell_same _ _ _ _ _ _ HI.out];rfl,HK.out.setCell hb ⟨by decide,by decide⟩ HI.out⟩
  simp [cntF,h1]
 ·have d1:decide (wrap64 (s + 1) ≤ 40) = false:=decide_eq_false h1
  go_wp2_with fail
  go_ret
  refine ⟨?_,by rw [ManyAt,heap_setCell_same _ _ _ _ _ _ HI.out];rfl,HK.out.setCell hb ⟨by decide,by decide⟩ HI.out⟩
  show _ = Ending.returned (.bool (decide (wrap64 (s + 1) ≤ 40) && decide (k ≤ 6)))
  rw [decide_eq_false (by omega)];rfl
def allF {σ:Type} (p:Nd → σ → Bool × σ) (n:Nd) (k:Int) (s:σ):Bool × σ:=if k = 0 then (true,s) else p n s
def OkAt (B:Nat) (P M:Nat → Prop) {σ:Type} (Inv:Nat → σ → World → Prop) (p:Nd → σ → Bool × σ) (g:Nat) (lb:Array Value):Prop :=
 ∀ (m:Nat) (n:Nd) (u:Value) (s:σ) (w:World),B ≤ w.heap.size → Inv (m + 1) s w → IsNds P w u n.sub → (∀ x ∈ nodes n,x.Ok1) →
  Calls Tryd.prog g (#[.agg (ndA n u)] ++ lb) w fun e w'=>e = .returned (.bool (p n s).1) ∧ Inv m (p n s).2 w' ∧ Kp B M w w'
def WithOk {σ:Type} (Inv:Nat → σ → World → Prop) (o g:Nat) (lb:Array Value) (m:Nat) (s:σ) (w:World):Prop:=Inv m s w ∧ w.heap[o]? = some (.cells #[.func (.func g) #[] lb] 49 (0,0))
set_option maxRecDepth 100000 in
theorem all1_any {σ:Type} (B:Nat) (P M:Nat → Prop) (Inv:Nat → σ → World → Prop) (p:Nd → σ → Bool × σ) (g:Nat) (lb:Array Value) (o:Nat) (ho:B ≤ o) (hMo:¬ M o) (hP:∀ b,P b → b < B)
  (eg:∀ args w,(callFunc g args).run Tryd.prog w = .ok (.enter g args) w)
  (HA:∀ m s w w',Inv m s w → B ≤ w.heap.size → Below w.heap.size w w' → Inv m s w') (HD:∀ m m' s w,Inv m s w → m' ≤ m → Inv m' s w) (HS:OkAt B P M Inv p g lb) :
  SeeAt B P M (WithOk Inv o g lb) (allF p) 78 #[.pointer (some ⟨o,0,none⟩)]:=by
 intro m n u k s w hB hI hN hO
 obtain ⟨hI,hro⟩:=hI
 have HC:=Lib.hid (fun (w1:World) (hw:Below w.heap.size w w1)=>HS m n u s w1 (Nat.le_trans hB hw.size) (HA _ s w w1 hI hB hw) (hN.belowP hP (hw.mono hB)) hO)
 obtain ⟨ad,cp,rfl⟩:=hN.form
 have hw:Below w.heap.size w (w.alloc (.cells #[.int .i64 n.id,.string n.name,.int .i64 n.rep,.int .i64 n.kind,.slice ad n.sub.length cp] 47)):=(Below.refl _ _).alloc (Nat.le_refl _) _
 have HW:=Lib.hid hw;have HR:=Lib.hid hro;have HI:=Lib.hid hI
 clear hw hro hI hN hO
 unfold ndA at *
 go_enter Tryd.func78,Tryd.ntmps78
 go_upto_region 1 with fail
 have hI2:=row_keep HW.out HR.out
 have hrw:=heap_alloc_new w (.cells #[.int .i64 n.id,.string n.name,.int .i64 n.rep,.int .i64 n.kind,.slice ad n.sub.length cp] 47)
 have HK:=Lib.hid (Kp.of_below (B:=B) (M:=M) HW.out hB)
 have HI1:=Lib.hid (HD _ m _ _ (HA _ s w _ HI.out hB HW.out) (Nat.le_succ _))
 generalize (w.alloc (.cells #[.int .i64 n.id,.string n.name,.int .i64 n.rep,.int .i64 n.kind,.slice ad n.sub.length cp] 47)) = w1 at *
 have RO:=Lib.hid hI2
 have c1:=rowc hI2;have c2:=rowc hrw
 clear hI2 hrw HR
 by_cases hk:k = 0
 ·have hkd:((k:Int) == 0) = true:=by simpa using hk
  go_wp2_with fail
  go_ret
  simp only [allF,if_pos hk]
  exact ⟨rfl,⟨HI1.out,RO.out⟩,HK.out⟩
 ·have hkd:((k:Int) == 0) = false:=by simpa using hk
  go_wp2_with fail
  refine (HC.out _ HW.out).mono ?_;rintro e w3 ⟨rfl,hi3,hk3⟩
  have HK3:=Lib.hid (HK.out.trans hk3);have HI3:=Lib.hid hi3;have RO3:=Lib.hid (hk3.keep _ _ _ _ (.inr rfl) hMo RO.out)
  have HN:=Lib.hid hk
  clear hk3 hi3 c1 c2 hk
  go_wp2_with fail
  go_ret
  simp only [allF,if_neg HN.out]
  exact ⟨rfl,⟨HI3.out,RO3.out⟩,HK3.out⟩
set_option maxRecDepth 100000 in
theorem all_any {σ:Type} (B:Nat) (P M:Nat → Prop) (Inv:Nat → σ → World → Prop) (p:Nd → σ → Bool × σ) (g:Nat) (lb:Array Value) (hP:∀ b,P b → b < B) (hMB:∀ (b:Nat) (w:World),B ≤ w.heap.size → w.heap.size ≤ b → ¬ M b)
  (eg:∀ args w,(callFunc g args).run Tryd.prog w = .ok (.enter g args) w)
  (HA:∀ m s w w',Inv m s w → B ≤ w.heap.size → Below w.heap.size w w' → Inv m s w') (HD:∀ m m' s w,Inv m s w → m' ≤ m → Inv m' s w) (HS:OkAt B P M Inv p g lb)
  (m:Nat) (n:Nd) (u:Value) (s:σ) (w:World) (hB:B ≤ w.heap.size) (hI:Inv (m + size n) s w) (hN:IsNds P w u n.sub) (hO:∀ x ∈ nodes n,x.Ok1) :
  Calls Tryd.prog 68 #[.agg (ndA n u),.func (.func g) #[] lb] w fun e w'=>e = .returned (.bool (runF (allF p) (pre n 0) s).1) ∧ Inv m (runF (allF p) (pre n 0) s).2 w' ∧ Kp B M w w':=by
 have hw:Below w.heap.size w ((w.alloc (.cells (ndA n u) 47)).alloc (.cells #[.func (.func g) #[] lb] 49)):=((Below.refl _ _).alloc (Nat.le_refl _) _).alloc (by simp) _
 have hro:((w.alloc (.cells (ndA n u) 47)).alloc (.cells #[.func (.func g) #[] lb] 49)).heap[w.heap.size + 1]? = some (.cells #[.func (.func g) #[] lb] 49 (0,0)):=by
  simpa using heap_alloc_new (w.alloc (.cells (ndA n u) 47)) (.cells #[.func (.func g) #[] lb] 49)
 have hMo:¬ M (w.heap.size + 1):=hMB _ w hB (by omega)
 have e1:∀ args w,(callFunc 78 args).run Tryd.prog w = .ok (.enter 78 args) w:=enters_of Tryd.func78 (by kernel_rfl) rfl
 have hc:=walk_any B P M (WithOk Inv (w.heap.size + 1) g lb) (allF p) 78 #[.pointer (some ⟨w.heap.size + 1,0,none⟩)] e1 hP hMB
  (fun m s w1 w2 ⟨h1,h2⟩ hB' hb=>⟨HA m s w1 w2 h1 hB' hb,row_keep hb h2⟩) (fun m m' s w ⟨h1,h2⟩ hm=>⟨HD m m' s w h1 hm,h2⟩)
  (all1_any B P M Inv p g lb (w.heap.size + 1) (by omega) hMo hP eg HA HD HS) n m u 0 s _ (Nat.le_trans hB hw.size) ⟨HA _ s w _ hI hB hw,hro⟩ (hN.belowP hP (hw.mono hB)) hO
 obtain ⟨ad,cp,rfl⟩:=hN.form
 have HW:=Lib.hid hw;have HC:=Lib.hid hc
 clear hw hro hI hN hO hc e1
 unfold ndA at *
 go_enter Tryd.func68,Tryd.ntmps68
 go_wp2_with fail
 refine HC.out.mono ?_;rintro e w3 ⟨rfl,⟨hi3,-⟩,hk3⟩
 have HK3:=Lib.hid ((Kp.of_below (B:=B) (M:=M) HW.out hB).trans hk3);have HI3:=Lib.hid hi3
 clear hk3 hi3
 go_wp2_with fail
 go_ret
 exact ⟨rfl,HI3.out,HK3.out⟩
end Go.Proofs.YtkmhmnffbgedgaaDoor
/- The walks of schema.Valid's closures: shapes. -/
namespace Go.Proofs.YtkmhmnffbgedgaaDoor
set_option maxHeartbeats 8000000
set_option linter.unusedVariables false
set_option linter.unusedSimpArgs false
open Go Go.RowKit Go.ChangeShapes
set_option maxRecDepth 100000 in
theorem leaf_any (n:Nd) (u:Value) (w:World) (b:Bool) (hb:decide (n.kind ≠ 0) = b) (h1:u.oneCell' = true) (hu:∃ ad k c,u = .slice ad k c) :
  Calls Tryd.prog 67 #[.agg #[.int .i64 n.id,.string n.name,.int .i64 n.rep,.int .i64 n.kind,u]] w fun e w'=>e = .returned (.bool b) ∧ Below w.heap.size w w':=by
 obtain ⟨ad,k,c,rfl⟩:=hu
 by_cases h:n.kind = 0
 ·have hd:(n.kind == 0) = true:=by simpa using h
  have:b = false:=by rw [← hb];simp [h]
  subst this
  clear hb h1
  go_enter Tryd.func67,Tryd.ntmps67
  go_wp2_with fail
  go_ret
  exact ⟨ret_of (by simp [h]),(Below.refl _ _).alloc (Nat.le_refl _) _⟩
 ·have hd:(n.kind == 0) = false:=by simpa using h
  have:b = true:=by rw [← hb];simp [h]
  subst this
  clear hb h1
  go_enter Tryd.func67,Tryd.ntmps67
  go_wp2_with fail
  go_ret
  exact ⟨ret_of (by simp [h]),(Below.refl _ _).alloc (Nat.le_refl _) _⟩
def LeafAt (b:Nat) (_:Nat) (_:Unit) (w:World):Prop:=w.heap[b]? = some (.cells #[.func (.func 67) #[] #[]] 49 (0,0))
def shapeF (n:Nd) (s:Unit):Bool × Unit:=(okShape n,s)
set_option maxRecDepth 100000 in
theorem valid3_any (B:Nat) (P:Nat → Prop) (b:Nat) (hb:B ≤ b):OkAt B P (fun _=>False) (LeafAt b) shapeF 69 #[.pointer (some ⟨b,0,none⟩)]:=by
 intro m n u s w hB hI hN hO
 obtain ⟨ad,cp,rfl⟩:=hN.form
 obtain ⟨len,hlen⟩:∃ len,n.sub.length = len:=⟨_,rfl⟩
 have hE:n.sub.isEmpty = decide (len = 0):=by rw [← hlen];cases n.sub <;> simp
 have HC:=Lib.hid (fun (w1:World) (b:Bool) (hb:decide (n.kind ≠ 0) = b)=>leaf_any n (.slice ad len cp) w1 b hb rfl ⟨_,_,_,rfl⟩)
 rw [hlen]
 unfold LeafAt at hI
 have HI0:=Lib.hid hI;have HE:=Lib.hid hE
 clear hI hO hN hE hlen
 unfold ndA at *
 go_enter Tryd.func69,Tryd.ntmps69
 go_upto_region 1 with fail
 have hw:Below w.heap.size w (w.alloc (.cells #[.int .i64 n.id,.string n.name,.int .i64 n.rep,.int .i64 n.kind,.slice ad len cp] 47)):=(Below.refl _ _).alloc (Nat.le_refl _) _
 have HK:=Lib.hid (Kp.of_below (B:=B) (M:=fun _=>False) hw hB)
 have hI2:=row_keep hw HI0.out
 have hrw:=heap_alloc_new w (.cells #[.int .i64 n.id,.string n.name,.int .i64 n.rep,.int .i64 n.kind,.slice ad len cp] 47)
 clear HI0 hw
 generalize (w.alloc (.cells #[.int .i64 n.id,.string n.name,.int .i64 n.rep,.int .i64 n.kind,.slice ad len cp] 47)) = w1 at *
 have HI:=Lib.hid hI2;have HR:=Lib.hid hrw
 have c1:=rowc hI2;have c2:=rowc hrw
 clear hI2 hrw
 by_cases r1:1 ≤ n.rep
 case neg =>
  have d1:decide (1 ≤ n.rep) = false:=decide_eq_false r1
  have HO:=Lib.hid (show okShape n = false by unfold okShape;rw [d1];simp);clear r1
  clear HC HE
  go_quiet (fail)
  go_wp2_with fail
  go_ret
  exact ⟨ret_of (by show _ = Value.bool (okShape n);rw [HO.out];rfl),row_keep (below_drewN (Below.refl _ _) _) HI.out,HK.out.trans (Kp.of_below (below_drewN (Below.refl _ _) _) (Nat.le_trans hB HK.out.below.size))⟩
 have d1:decide (1 ≤ n.rep) = true:=decide_eq_true r1
 by_cases r2:n.rep ≤ 3
 case neg =>
  have d2:decide (n.rep ≤ 3) = false:=decide_eq_false r2
  have HO:=Lib.hid (show okShape n = false by unfold okShape;rw [d1,d2];simp);clear r2
  clear HC HE
  go_quiet (fail)
  go_wp2_with fail
  go_ret
  exact ⟨ret_of (by show _ = Value.bool (okShape n);rw [HO.out];rfl),row_keep (below_drewN (Below.refl _ _) _) HI.out,HK.out.trans (Kp.of_below (below_drewN (Below.refl _ _) _) (Nat.le_trans hB HK.out.below.size))⟩
 have d2:decide (n.rep ≤ 3) = true:=decide_eq_true r2
 by_cases r3:0 ≤ n.kind
 case neg =>
  have d3:decide (0 ≤ n.kind) = false:=decide_eq_false r3
  have HO:=Lib.hid (show okShape n = false by unfold okShape;rw [d1,d2,d3];simp);clear r3
  clear HC HE
  go_quiet (fail)
  go_wp2_with fail
  go_ret
  exact ⟨ret_of (by show _ = Value.bool (okShape n);rw [HO.out];rfl),row_keep (below_drewN (Below.refl _ _) _) HI.out,HK.out.trans (Kp.of_below (below_drewN (Below.refl _ _) _) (Nat.le_trans hB HK.out.below.size))⟩
 have d3:decide (0 ≤ n.kind) = true:=decide_eq_true r3
 by_cases r4:n.kind ≤ 5
 case neg =>
  have d4:decide (n.kind ≤ 5) = false:=decide_eq_false r4
  have HO:=Lib.hid (show okShape n = false by unfold okShape;rw [d1,d2,d3,d4];simp);clear r4
  clear HC HE
  go_quiet (fail)
  go_wp2_with fail
  go_ret
  exact ⟨ret_of (by show _ = Value.bool (okShape n);rw [HO.out];rfl),row_keep (below_drewN (Below.refl _ _) _) HI.out,HK.out.trans (Kp.of_below (below_drewN (Below.refl _ _) _) (Nat.le_trans hB HK.out.below.size))⟩
 have d4:decide (n.kind ≤ 5) = true:=decide_eq_true r4
 have HB:=Lib.hid (Below.refl w1.heap.size w1)
 have HO:=Lib.hid (show okShape n = (decide (n.kind ≠ 0) == decide (len = 0)) by unfold okShape;rw [d1,d2,d3,d4,HE.out];rfl)
 clear HE r1 r2 r3 r4
 obtain ⟨kb,hkb⟩:∃ kb,decide (n.kind ≠ 0) = kb:=⟨_,rfl⟩
 rw [hkb] at HO
 have HKB:=Lib.hid hkb
 clear hkb
 have HCC:=Lib.hid (fun w1=>HC.out w1 kb HKB.out)
 clear HC
 obtain ⟨R,hR⟩:∃ R,okShape n = R:=⟨_,rfl⟩
 have HRr:=Lib.hid (show (kb == decide (len = 0)) = R by rw [← hR,HO.out])
 have HRr2:=Lib.hid hR
 clear HO hR HKB
 by_cases hl:len = 0
 ·subst hl
  have HL:=Lib.hid (rfl:(0:Nat) = 0)
  cases kb
  all_goals
   go_region_held3 (fun w'=>(∀ j,w'.cell? ⟨b,j,none⟩ = (#[.func (.func 67) #[] #[]]:Array Value)[j]?) ∧ (∀ j,w'.cell? ⟨w.heap.size,j,none⟩ = (#[.int .i64 n.id,.string n.name,.int .i64 n.rep,.int .i64 n.kind,.slice ad 0 cp]:Array Value)[j]?))
    (first | (with_reducible exact ⟨rowc HI.out,rowc HR.out⟩) | (with_reducible exact ⟨rowc_drew HI.out,rowc_drew HR.out⟩))
    (first | (go_at_call 67;(with_reducible refine (HCC.out _).mono ?_);rintro e w2 ⟨rfl,hb2⟩;(first | (with_reducible have hbs:=drew_first hb2) | (have hbs:=hb2));replace HI:=Lib.hid (row_keep hbs HI.out);replace HR:=Lib.hid (row_keep hbs HR.out);replace HB:=Lib.hid (HB.out.trans (hbs.mono HB.out.size));clear hb2 hbs))
   go_wp2_with fail
   go_ret
   exact ⟨ret_of (by show _ = Value.bool (okShape n);rw [HRr2.out,← HRr.out];first | rfl | (simp [HL.out])),HI.out,HK.out.trans (Kp.of_below HB.out (Nat.le_trans hB HK.out.below.size))⟩
 ·have HL:=Lib.hid hl
  cases kb
  all_goals
   go_region_held3 (fun w'=>(∀ j,w'.cell? ⟨b,j,none⟩ = (#[.func (.func 67) #[] #[]]:Array Value)[j]?) ∧ (∀ j,w'.cell? ⟨w.heap.size,j,none⟩ = (#[.int .i64 n.id,.string n.name,.int .i64 n.rep,.int .i64 n.kind,.slice ad len cp]:Array Value)[j]?))
    (first | (with_reducible exact ⟨rowc HI.out,rowc HR.out⟩) | (with_reducible exact ⟨rowc_drew HI.out,rowc_drew HR.out⟩))
    (first | (go_at_call 67;(with_reducible refine (HCC.out _).mono ?_);rintro e w2 ⟨rfl,hb2⟩;(first | (with_reducible have hbs:=drew_first hb2) | (have hbs:=hb2));replace HI:=Lib.hid (row_keep hbs HI.out);replace HR:=Lib.hid (row_keep hbs HR.out);replace HB:=Lib.hid (HB.out.trans (hbs.mono HB.out.size));clear hb2 hbs))
   go_wp2_with fail
   go_ret
   exact ⟨ret_of (by show _ = Value.bool (okShape n);rw [HRr2.out,← HRr.out];first | rfl | (simp [HL.out])),HI.out,HK.out.trans (Kp.of_below HB.out (Nat.le_trans hB HK.out.below.size))⟩
end Go.Proofs.YtkmhmnffbgedgaaDoor
/- The walks of schema.Valid's closures: names. -/
namespace Go.Proofs.YtkmhmnffbgedgaaDoor
set_option maxHeartbeats 8000000
set_option linter.unusedVariables false
set_option linter.unusedSimpArgs false
open Go Go.RowKit Go.ChangeShapes
def abc:ByteArray:=⟨#[97,98,99,100,101,102,103,104,105,106,107,108,109,110,111,112,113,114,115,116,117,118,119,120,121,122]⟩
set_option maxRecDepth 100000 in
theorem abc_has (c:UInt8):abc.data.toList.contains c = decide (97 ≤ c.toNat ∧ c.toNat ≤ 122):=by
 have h:∀ n:Fin 256,(abc.data.toList.contains (UInt8.ofNat n.val)) = decide (97 ≤ n.val ∧ n.val ≤ 122):=by decide
 have:=h ⟨c.toNat,c.toNat_lt⟩
 rwa [UInt8.ofNat_toNat] at this
theorem dw_nil {α:Type} (p:α → Bool):∀ l:List α,l.dropWhile p = [] ↔ ∀ x ∈ l,p x = true
 | []=>by simp
 | a :: r=>by
  rw [List.dropWhile_cons]
  by_cases h:p a = true
  ·rw [if_pos h,dw_nil p r];simp [h]
  ·rw [if_neg h];simp [h]
theorem dw_head {α:Type} (p:α → Bool):∀ (l:List α) (a:α) (r:List α),l.dropWhile p = a :: r → p a = false
 | [],a,r,h=>by simp at h
 | b :: l,a,r,h=>by
  rw [List.dropWhile_cons] at h
  by_cases hb:p b = true
  ·rw [if_pos hb] at h;exact dw_head p l a r h
  ·rw [if_neg hb] at h;injection h with h1 h2;subst h1;simpa using hb
theorem dw_sub {α:Type} (p:α → Bool) (l:List α):∀ x ∈ l.dropWhile p,x ∈ l:=fun x hx=>(List.dropWhile_sublist p).subset hx
theorem trim_nil (l cs:List UInt8):Lib.trimS l cs = [] ↔ ∀ c ∈ l,cs.contains c = true:=by
 unfold Lib.trimS Lib.trimLeftS Lib.trimRightS
 rw [dw_nil]
 constructor
 ·intro h c hc
  cases hd:l.reverse.dropWhile (fun x=>cs.contains x) with
  | nil=>exact (dw_nil _ _).1 hd c (by simpa using hc)
  | cons a r =>
   have h3:=h a (by rw [hd];simp)
   have h4:=dw_head _ _ _ _ hd
   rw [h3] at h4;cases h4
 ·intro h c hc
  rw [List.mem_reverse] at hc
  exact h c (by simpa using dw_sub _ _ c hc)
theorem trim_abc (s:ByteArray):(Lib.trimS s.data.toList abc.data.toList).isEmpty = s.data.toList.all fun c=>decide (97 ≤ c.toNat ∧ c.toNat ≤ 122):=by
 rw [Bool.eq_iff_iff,List.isEmpty_iff,trim_nil,List.all_eq_true]
 simp only [abc_has]
set_option maxRecDepth 100000 in
theorem isName_any (s:ByteArray) (w:World) (hs:s.size ≤ 9223372036854775807) :
  Calls Tryd.prog 71 #[.string s] w fun e w'=>e = .returned (.bool (isNm s)) ∧ Below w.heap.size w w':=by
 have hcon:=Any.strings_Trim_laid Tryd.lays160 (by kernel_rfl) s abc w hs (by decide) (ascii_of_all (by decide))
 change Calls Tryd.prog 79 _ _ (fun e w'=>e = .returned (.string ⟨(Lib.trimS s.data.toList abc.data.toList).toArray⟩) ∧ Below w.heap.size w w') at hcon
 have hR:=trim_abc s
 generalize Lib.trimS s.data.toList abc.data.toList = r at hcon hR
 unfold abc at hcon
 have HC:=Lib.hid hcon;have HR:=Lib.hid hR
 clear hcon hR
 go_enter Tryd.func71,Tryd.ntmps71
 go_wp2_with (go_at_call 79;refine HC.out.mono ?_;rintro e w' ⟨rfl,hB⟩)
 ·go_ret
  rename_i h
  exact ⟨ret_of (by unfold isNm;rw [← ByteArray.toList_eq,h];rfl),Below.refl _ _⟩
 ·go_ret
  rename_i h1 h2
  refine ⟨ret_of ?_,hB⟩
  show Value.bool (!s.toList.isEmpty && r.isEmpty) = _
  rw [HR.out,ByteArray.toList_eq]
  unfold isNm
  rw [decide_eq_true (show s.size ≤ 12 by omega),Bool.and_true]
 ·go_ret
  rename_i h1 h2
  refine ⟨ret_of ?_,Below.refl _ _⟩
  show Value.bool false = _
  unfold isNm
  rw [decide_eq_false (show ¬ s.size ≤ 12 by omega),Bool.and_false,Bool.false_and]
def strN (s:ByteArray):Value:=.string s
theorem info_strN:(Tryd.prog.info? 9).map (fun i=>(i.zero,i.size,i.bytes)) = some (some (.string ByteArray.empty),1,16):=by kernel_rfl
theorem contains_any (l:List ByteArray) (x:ByteArray):Lib.containsS l x = l.any fun y=>decide (y = x):=by
 rw [Bool.eq_iff_iff,Lib.containsS_iff,List.any_eq_true]
 simp only [decide_eq_true_eq]
 exact ⟨fun h=>⟨x,h,rfl⟩,fun ⟨y,h,e⟩=>e ▸ h⟩
theorem has_own {w:World} {B:Nat} {v:Value} {l:List ByteArray} (hown:w.ownsRow B 9 1 v l.length (l.map strN)) (hm:l.length ≤ 2199023255552) (x:ByteArray) :
  Calls Tryd.prog 72 #[v,.string x] w fun e w'=>e = .returned (.bool (l.any fun y=>decide (y = x))) ∧ w' = w:=by
 rcases hown.2 with ⟨rfl,h0⟩ | ⟨g,cap,cur,rfl,_⟩
 ·have:l = []:=List.eq_nil_of_length_eq_zero h0
  subst this
  exact Tryd.slices_Contains_string_empty none 0 x w
 ·have h:=Tryd.slices_Contains_string g 0 l.length cap l x w (Nat.le_refl _) (by omega) fun j hj=>by
   rw [Nat.zero_add,hown.cellAt j (by omega),List.getElem?_map,List.getElem?_eq_getElem hj,List.getD_eq_getElem?_getD,List.getElem?_eq_getElem hj];rfl
  rw [List.take_of_length_le (Nat.le_refl _),contains_any] at h
  exact h
def namesF (n:Nd) (_:Int) (s:Unit):Bool × Unit:=(namesR [] n.sub,s)
set_option maxRecDepth 100000 in
theorem valid4_any (B:Nat) (P:Nat → Prop) (hP:∀ b,P b → b < B):SeeAt B P (fun _=>False) (fun _ _ _=>True) namesF 70 #[]:=by
 intro m n u k s w hB _ hN hO
 have hlen:=(hO n (by rw [nodes_eq];exact List.mem_cons_self ..)).sub
 have hOs:∀ x ∈ n.sub,x.name.size ≤ 9223372036854775807:=fun x hx=>(hO x (by rw [nodes_eq];exact List.mem_cons_of_mem _ (nodesL_mem hx (by rw [nodes_eq];exact List.mem_cons_self ..)))).name
 obtain ⟨R,hR⟩:∃ R,namesR [] n.sub = R:=⟨_,rfl⟩
 have hp:(namesF n k s).1 = R:=hR
 rw [hp]
 clear hp hO
 obtain ⟨l,hl⟩:∃ l,n.sub = l:=⟨_,rfl⟩
 obtain ⟨ad,cp,hv⟩:=hN.form
 rw [hl] at hN hR hlen hv hOs
 obtain ⟨len,hnl⟩:∃ len,l.length = len:=⟨_,rfl⟩
 rw [hnl] at hlen hv
 subst hv
 have HL:=Lib.hid hnl;have HRr:=Lib.hid hR;have HN:=Lib.hid hN;have HOs:=Lib.hid hOs
 clear hnl hl hR hN hOs
 obtain ⟨i0,hi,hz0,hz1,hz2⟩:=info_parts info_strN
 unfold ndA
 go_enter Tryd.func70,Tryd.ntmps70
 go_upto_region 1 with fail
 have hw:Below w.heap.size w (w.alloc (.cells #[.int .i64 n.id,.string n.name,.int .i64 n.rep,.int .i64 n.kind,.slice ad len cp] 47)):=(Below.refl _ _).alloc (Nat.le_refl _) _
 have hrw:=heap_alloc_new w (.cells #[.int .i64 n.id,.string n.name,.int .i64 n.rep,.int .i64 n.kind,.slice ad len cp] 47)
 generalize (w.alloc (.cells #[.int .i64 n.id,.string n.name,.int .i64 n.rep,.int .i64 n.kind,.slice ad len cp] 47)) = w1 at *
 have HW:=Lib.hid hw;have RN:=Lib.hid hrw
 have cN:=rowc hrw
 clear hw hrw
 go_wp2_with fail
 clear cN
 go_loopw [5,11] (fun s5 i wr=>∃ (j:Nat) (sl:List ByteArray) (v5:Value),j ≤ len ∧ i = .int .i64 (j:Nat) ∧ v5 = s5 ∧ sl.length = j ∧ wr.ownsRow (w.heap.size + 1) 9 1 v5 sl.length (sl.map strN) ∧ Hid (namesR sl (l.drop j) = R) ∧ Below w.heap.size w wr ∧ wr.heap[w.heap.size]? = some (.cells #[.int .i64 n.id,.string n.name,.int .i64 n.rep,.int .i64 n.kind,.slice ad len cp] 47 (0,0))) (fun _ i _=>len - (intOf i).toNat)
 case atStart=>exact ⟨0,[],_,Nat.zero_le _,rfl,rfl,rfl,World.ownsRow_nil _ _ _ _,HRr.out,HW.out,RN.out⟩
 case round =>
  obtain ⟨j,sl,v5,hj,rfl,rfl,hsl,ho,HE,hb,rN⟩:=hrel
  clear HW RN HRr
  have HW:=Lib.hid hb;have RN:=Lib.hid rN;have HO:=Lib.hid ho;have HSL:=Lib.hid hsl
  have hslm:sl.length ≤ 2199023255552:=by omega
  clear hb rN ho hsl
  by_cases hlt:j < len
  ·have hjl:j < l.length:=by rw [HL.out];exact hlt
   obtain ⟨b0,off,rfl,hPb,hb0,hat⟩:=(HN.out.belowP hP (HW.out.mono hB)).at (by omega)
   obtain ⟨ux,hcx,hnx⟩:=hat j l[j] (List.getElem?_eq_getElem hjl)
   have hdr:l.drop j = l[j] :: l.drop (j + 1):=List.drop_eq_getElem_cons hjl
   have hxs:=HOs.out l[j] (List.getElem_mem hjl)
   have hin:(j:Int) < (len:Int):=by omega
   have Hlt:=Lib.hid hlt
   have hE2:=HE.out
   rw [hdr] at hE2
   generalize l[j] = x at *
   obtain ⟨ax,cx,rfl⟩:=hnx.form
   unfold NdAt ndA at hcx
   have HCX:=Lib.hid hcx
   simp only [namesR] at hE2
   have HE2:=Lib.hid hE2
   clear hat hjl hdr hnx hcx hPb hE2 HE
   have cN:=rowc RN.out
   go_upto_region 5 with (refine wpList_load_cells rfl 47 _ rfl b0 (off + j * 5) rfl #[.int .i64 x.id,.string x.name,.int .i64 x.rep,.int .i64 x.kind,.slice ax x.sub.length cx] _ HCX.out Tryd.underlying47 rfl nd_info ?_)
   have hw2:Below wr.heap.size wr (wr.alloc (.cells #[.int .i64 x.id,.string x.name,.int .i64 x.rep,.int .i64 x.kind,.slice ax x.sub.length cx] 47)):=(Below.refl _ _).alloc (Nat.le_refl _) _
   have hrx:=heap_alloc_new wr (.cells #[.int .i64 x.id,.string x.name,.int .i64 x.rep,.int .i64 x.kind,.slice ax x.sub.length cx] 47)
   replace HO:=Lib.hid (HO.out.alloc (.cells #[.int .i64 x.id,.string x.name,.int .i64 x.rep,.int .i64 x.kind,.slice ax x.sub.length cx] 47));replace RN:=Lib.hid (row_keep hw2 RN.out);replace HW:=Lib.hid (HW.out.trans (hw2.mono HW.out.size));have RX:=Lib.hid hrx
   have hgx:wr.heap.size < (wr.alloc (.cells #[.int .i64 x.id,.string x.name,.int .i64 x.rep,.int .i64 x.kind,.slice ax x.sub.length cx] 47)).heap.size:=row_lt hrx
   generalize (wr.alloc (.cells #[.int .i64 x.id,.string x.name,.int .i64 x.rep,.int .i64 x.kind,.slice ax x.sub.length cx] 47)) = w2 at *
   generalize wr.heap.size = gx at *
   clear hw2 hrx cN
   have cX:=rowc RX.out
   cases hnm:isNm x.name with
   | false =>
    have HIS:=Lib.hid (fun w9=>hnm ▸ isName_any x.name w9 hxs)
    have hR0:=HE2.out
    rw [hnm] at hR0
    obtain rfl:false = R:=by simpa using hR0
    clear hnm hR0 HE2
    go_wp2_with fail
    refine (HIS.out _).mono ?_;rintro e w3 ⟨rfl,hb3⟩
    replace HW:=Lib.hid (HW.out.trans (hb3.mono HW.out.size))
    clear hb3 cX
    go_wp2_with fail
    go_ret
    exact ⟨rfl,trivial,.of_below HW.out hB⟩
   | true =>
    have HIS:=Lib.hid (fun w9=>hnm ▸ isName_any x.name w9 hxs)
    have HE3:=HE2.out
    rw [hnm] at HE3
    clear hnm HE2
    cases hh:(sl.any fun y=>decide (y = x.name)) with
    | true =>
     rw [hh] at HE3
     obtain rfl:false = R:=by simpa using HE3
     have HHA:=Lib.hid (fun w9 (ho:World.ownsRow w9 (w.heap.size + 1) 9 1 v5 sl.length (sl.map strN))=>hh ▸ has_own ho hslm x.name)
     clear HE3 hh
     go_wp2_with fail
     refine (HIS.out _).mono ?_;rintro e w3 ⟨rfl,hb3⟩
     replace RX:=Lib.hid (row_keep hb3 RX.out);replace RN:=Lib.hid (row_keep hb3 RN.out);replace HO:=Lib.hid (own_blw HO.out hb3);replace HW:=Lib.hid (HW.out.trans (hb3.mono HW.out.size))
     clear hb3 cX
     have cX:=rowc RX.out
     go_wp2_with fail
     refine (HHA.out _ HO.out).mono ?_;rintro e w9 ⟨rfl,hw9⟩
     subst hw9
     go_wp2_with fail
     go_ret
     exact ⟨rfl,trivial,.of_below HW.out hB⟩
    | false =>
     rw [hh] at HE3
     have HE4:=Lib.hid (show namesR (sl ++ [x.name]) (l.drop (j + 1)) = R by simpa using HE3)
     have HHA:=Lib.hid (fun w9 (ho:World.ownsRow w9 (w.heap.size + 1) 9 1 v5 sl.length (sl.map strN))=>hh ▸ has_own ho hslm x.name)
     clear HE3 hh
     go_wp2_with fail
     refine (HIS.out _).mono ?_;rintro e w3 ⟨rfl,hb3⟩
     replace RX:=Lib.hid (row_keep hb3 RX.out);replace RN:=Lib.hid (row_keep hb3 RN.out);replace HO:=Lib.hid (own_blw HO.out hb3);replace HW:=Lib.hid (HW.out.trans (hb3.mono HW.out.size))
     clear hb3 cX
     have cX:=rowc RX.out
     go_wp2_with fail
     refine (HHA.out _ HO.out).mono ?_;rintro e w9 ⟨rfl,hw9⟩
     subst hw9
     have hbs:w.heap.size + 1 ≤ w9.heap.size:=row_lt RN.out
     have h63:sl.length + 1 ≤ maxLen:=by unfold maxLen;omega
     have h64:(sl.length + 1) * 16 ≤ 140737488355328:=by have:=HSL.out;omega
     go_wp2_with (at_builtin;refine wpList_push rfl _ _ 130 rfl (w.heap.size + 1) 9 i0 (.string ByteArray.empty) 16 Tryd.underlying130 hi hz0 hz1 hz2 rfl strN (fun _=>rfl) _ _ rfl HO.out _ _ rfl h63 h64 hbs x.name rfl ?_;intro v' w1 hown' hb' hnn;have HO':=Lib.hid hown';have HB':=Lib.hid hb';clear hown' hb')
     go_roundw
     case rel=>exact ⟨j + 1,sl ++ [x.name],_,Hlt.out,by go_num,rfl,by rw [List.length_append,HSL.out];rfl,HO'.out,HE4.out,HW.out.trans (HB'.out.mono (Nat.le_succ _)),(HB'.out.block _ (Nat.lt_succ_self _)).trans RN.out⟩
     case measure=>have:=Hlt.out;simp [intOf];omega
  ·obtain rfl:j = len:=by omega
   have hE2:=HE.out
   rw [List.drop_of_length_le (Nat.le_of_eq HL.out)] at hE2
   obtain rfl:true = R:=hE2
   have cN:=rowc RN.out
   go_wp2_with fail
   go_ret
   exact ⟨rfl,trivial,.of_below HW.out hB⟩
end Go.Proofs.YtkmhmnffbgedgaaDoor
/- The walks of schema.Valid's closure for IDs, and of schema.Valid. -/
namespace Go.Proofs.YtkmhmnffbgedgaaDoor
set_option maxHeartbeats 8000000
set_option linter.unusedVariables false
set_option linter.unusedSimpArgs false
open Go Go.RowKit Go.ChangeShapes
theorem wpList_pushG {P:Program} {wr:World} {ops:Array Oper} {rest:List Oper} {o:Oper} {a:Act} {Q:Exit → Act → World → Prop} (hg:o.guard = none) (s x:Operand) (t:TypeId)
  (ho:o.op = .call { callee:=.builtin .append,args:=#[s,x],argTypes:=#[t,t] })
  (base:Nat) (e:TypeId) (i:TypeInfo) (z:Value) (bytes:Nat) (ht:P.underlying t = some (.slice e)) (hi:P.info? e = some i) (hz:i.zero = some z)
  (hsize:i.size = 1) (hby:i.bytes = bytes) (hzs:z.cells.size = 1)
  {α:Type} (f:α → Value) (hf:∀ y,(f y).oneCell' = true)
  (v:Value) (l:List α) (hs:a.eval s = v) (hown:wr.ownsRow base e 1 v l.length (l.map f)) (e':TypeId) (u:Value) (hx:a.eval x = .slice (some ⟨wr.heap.size,0,none⟩) 1 1)
  (h63:l.length + 1 ≤ maxLen) (hbytes:(l.length + 1) * bytes ≤ 140737488355328) (hbase:base ≤ wr.heap.size) (y:α) (hu:u = f y)
  (h:∀ v' w',w'.ownsRow base e 1 v' (l ++ [y]).length ((l ++ [y]).map f) → (wr.alloc (.cells #[u] e')).grownBy w' v.ownBlock → wpList P ops Q rest (a.put o.dst v') w') :
  wpList P ops Q (o :: rest) a (wr.alloc (.cells #[u] e')):=by
 subst hu
 refine wpList_append_own _ hg s x t ho base e i z 1 bytes ht hi hz hsize hby hzs (by omega) v l.length (l.map f) hs (hown.alloc _) ⟨wr.heap.size,0,none⟩ 1 1 [f y] hx (by simp) ?_ ?_ h63 hbytes (by simp;omega) ?_
 ·intro j u hj
  cases j with
  | zero=>simp at hj;subst hj;simp [go_sem]
  | succ j=>simp at hj
 ·intro u hu;simp at hu;subst hu;exact hf y
 ·intro v' w' h1 h2 h3
  exact h v' w' (by simpa using h1) h2
theorem own_neB {w:World} {B s n b:Nat} {e T:TypeId} {v:Value} {xs:List Value} {cs:Array Value} {fr:Nat × Nat} (h:w.ownsRow B e s v n xs) (hb:w.heap[b]? = some (.cells cs T fr)) (he:T ≠ e):v.ownBlock ≠ some b:=by
 rcases h.2 with ⟨rfl,_⟩ | ⟨g,cap,cur,rfl,_,hg,_⟩
 ·simp [Value.ownBlock]
 ·intro hh
  simp only [Value.ownBlock,Option.some.injEq] at hh
  subst hh
  rw [hg] at hb
  injection hb with hb
  injection hb with _ h2 _
  exact he h2.symm
theorem own_setB {w:World} {B n s b q:Nat} {e T:TypeId} {v:Value} {xs:List Value} {cs:Array Value} (h:w.ownsRow B e s v n xs) (hb:w.heap[b]? = some (.cells cs T (0,0))) (he:T ≠ e) (y:Value) :
  (w.setCell ⟨b,q,none⟩ y).ownsRow B e s v n xs :=
 h.kept (row:=some b) ⟨rfl,rfl,rfl,by simp [World.setCell],fun k _ hk=>Below.heap_setCell _ _ _ _ (fun e:k = b=>hk (by rw [e]))⟩ (Or.inr (own_neB h hb he))
theorem grown_row {w w':World} {B s n b:Nat} {e T:TypeId} {v:Value} {xs:List Value} {cs:Array Value} {fr:Nat × Nat} {o:Obj} (hown:w.ownsRow B e s v n xs) (hg:(w.alloc o).grownBy w' v.ownBlock) (hb:w.heap[b]? = some (.cells cs T fr)) (he:T ≠ e) :
  w'.heap[b]? = some (.cells cs T fr):=by
 have hl:=row_lt hb
 rw [hg.block b (by simp;omega) (fun e1=>own_neB hown hb he e1.symm),Below.heap_alloc w o b hl]
 exact hb
theorem Kp.grown {B B':Nat} {M:Nat → Prop} {a w w':World} {s n:Nat} {e:TypeId} {v:Value} {xs:List Value} {o:Obj} (h:Kp B M a w) (hown:w.ownsRow B' e s v n xs) (he:47 ≠ e ∧ 49 ≠ e) (hB:B ≤ B') (hBw:B ≤ w.heap.size) (hg:(w.alloc o).grownBy w' v.ownBlock):Kp B M a w':=by
 refine h.trans ⟨((Below.refl _ _).alloc hBw o).grown hg (by simp;omega) (fun k hk=>?_),fun g cs T fz hT _ hb=>?_⟩
 ·have:=(hown.lt k hk).1;omega
 ·rcases hT with rfl | rfl
  ·exact grown_row hown hg hb he.1
  ·exact grown_row hown hg hb he.2
theorem own_form {w:World} {B n s:Nat} {e:TypeId} {v:Value} {xs:List Value} (h:w.ownsRow B e s v n xs):∃ ad cap,v = .slice ad n cap:=by
 rcases h.2 with ⟨h1,h0⟩ | ⟨g,cap,cur,hv,_⟩
 ·exact ⟨none,0,by rw [h1,h0]⟩
 ·exact ⟨_,cap,hv⟩
def intN (x:Int):Value:=.int .i64 x
theorem info_intN:(Tryd.prog.info? 3).map (fun i=>(i.zero,i.size,i.bytes)) = some (some (.int .i64 0),1,8):=by kernel_rfl
theorem hasI_own {w:World} {B:Nat} {v:Value} {l:List Int} (hown:w.ownsRow B 3 1 v l.length (l.map intN)) (hm:l.length ≤ 2199023255552) (x:Int) :
  Calls Tryd.prog 74 #[v,.int .i64 x] w fun e w'=>e = .returned (.bool (decide (x ∈ l))) ∧ w' = w:=by
 rcases hown.2 with ⟨rfl,h0⟩ | ⟨g,cap,cur,rfl,_⟩
 ·have:l = []:=List.eq_nil_of_length_eq_zero h0
  subst this
  exact Tryd.slices_Contains_int_empty none 0 x w
 ·have h:=Tryd.slices_Contains_int g 0 l.length cap l x w (Nat.le_refl _) (by omega) fun j hj=>by
   rw [Nat.zero_add,hown.cellAt j (by omega),List.getElem?_map,List.getElem?_eq_getElem hj,List.getD_eq_getElem?_getD,List.getElem?_eq_getElem hj];rfl
  rw [List.take_of_length_le (Nat.le_refl _)] at h
  have e:l.contains x = decide (x ∈ l):=by simp
  rw [e] at h
  exact h
def IdsAt (b:Nat) (m:Nat) (s:List Int) (w:World):Prop:=∃ v,w.heap[b]? = some (.cells #[v] 22 (0,0)) ∧ w.ownsRow (b + 1) 3 1 v s.length (s.map intN) ∧ s.length + m ≤ 1000000
set_option maxRecDepth 100000 in
theorem valid5_any (B:Nat) (P:Nat → Prop) (b:Nat) (hb:B ≤ b) (hP:∀ b,P b → b < B):OkAt B P (fun _=>False) (IdsAt b) idsG 73 #[.pointer (some ⟨b,0,none⟩)]:=by
 intro m n u s w hB hI hN hO
 obtain ⟨v,hv,hown,hsm⟩:=hI
 obtain ⟨ad,cp,rfl⟩:=hN.form
 obtain ⟨i0,hi,hz0,hz1,hz2⟩:=info_parts info_intN
 have HV:=Lib.hid hv;have HO:=Lib.hid hown
 clear hv hown hO hN
 obtain ⟨R,hR⟩:∃ R,(idsG n s).1 = R:=⟨_,rfl⟩
 have hr2:(idsG n s).2 = s ++ [n.id]:=rfl
 rw [hR,hr2]
 obtain ⟨q,hq⟩:∃ q,decide (n.id ∈ s) = q:=⟨_,rfl⟩
 have hR':(decide (1 ≤ n.id) && decide (n.id ≤ 1000) && !q) = R:=by rw [← hq];exact hR
 clear hR hr2
 have HRr:=Lib.hid hR';have HQ:=Lib.hid hq
 clear hR' hq
 unfold ndA at *
 go_enter Tryd.func73,Tryd.ntmps73
 go_upto_region 1 with fail
 have hw:Below w.heap.size w (w.alloc (.cells #[.int .i64 n.id,.string n.name,.int .i64 n.rep,.int .i64 n.kind,.slice ad n.sub.length cp] 47)):=(Below.refl _ _).alloc (Nat.le_refl _) _
 have HK:=Lib.hid (Kp.of_below (B:=B) (M:=fun _=>False) hw hB)
 have hrx:=heap_alloc_new w (.cells #[.int .i64 n.id,.string n.name,.int .i64 n.rep,.int .i64 n.kind,.slice ad n.sub.length cp] 47)
 replace HV:=Lib.hid (row_keep hw HV.out);replace HO:=Lib.hid (own_blw HO.out hw);have RX:=Lib.hid hrx
 have hbz:B ≤ (w.alloc (.cells #[.int .i64 n.id,.string n.name,.int .i64 n.rep,.int .i64 n.kind,.slice ad n.sub.length cp] 47)).heap.size:=Nat.le_trans hB hw.size
 generalize (w.alloc (.cells #[.int .i64 n.id,.string n.name,.int .i64 n.rep,.int .i64 n.kind,.slice ad n.sub.length cp] 47)) = w1 at *
 clear hw hrx
 obtain ⟨av,cv,hvf⟩:=own_form HO.out
 subst hvf
 have hbz1:b + 1 ≤ w1.heap.size:=row_lt HV.out
 have h63:s.length + 1 ≤ maxLen:=by unfold maxLen;omega
 have h64:(s.length + 1) * 8 ≤ 140737488355328:=by omega
 have HC:=Lib.hid (HQ.out ▸ hasI_own HO.out (by omega) n.id)
 have HSM:=Lib.hid hsm
 clear hsm
 have c1:=rowc HV.out;have f1:=rowf HV.out;have c2:=rowc RX.out
 by_cases h1:1 ≤ n.id
 ·have d1:decide (1 ≤ n.id) = true:=decide_eq_true h1
  by_cases h2:n.id ≤ 1000
  ·have d2:decide (n.id ≤ 1000) = true:=decide_eq_true h2
   go_wp2_with (first
    | (go_at_call 74;refine HC.out.mono ?_;rintro e w9 ⟨rfl,hw9⟩;subst hw9)
    | (at_builtin;refine wpList_pushG rfl _ _ 22 rfl (b + 1) 3 i0 (.int .i64 0) 8 Tryd.underlying22 hi hz0 hz1 hz2 rfl intN (fun _=>rfl) _ _ rfl HO.out _ _ rfl h63 h64 hbz1 n.id rfl ?_;intro v' w2 hown' hgr;obtain ⟨av2,cv2,rfl⟩:=own_form hown';have hb2:=grown_row HO.out hgr HV.out (by decide);have HV2:=Lib.hid hb2;have HO2:=Lib.hid hown';have HK2:=Lib.hid (HK.out.grown HO.out ⟨by decide,by decide⟩ (Nat.le_succ_of_le hb) hbz hgr);clear hown' hgr;clear c1 f1 c2;have c3:=rowc hb2;have f3:=rowf hb2;clear hb2))
   go_ret
   refine ⟨ret_of ?_,⟨_,by rw [heap_setCell_same _ _ _ _ _ _ HV2.out];simp,own_setB HO2.out HV2.out (by decide) _,by have:=HSM.out;simp;omega⟩,HK2.out.setCell hb ⟨by decide,by decide⟩ HV2.out⟩
   rw [← HRr.out,d1,d2];first | rfl | simp
  ·have d2:decide (n.id ≤ 1000) = false:=decide_eq_false h2
   clear h2
   go_wp2_with (first
    | (go_at_call 74;refine HC.out.mono ?_;rintro e w9 ⟨rfl,hw9⟩;subst hw9)
    | (at_builtin;refine wpList_pushG rfl _ _ 22 rfl (b + 1) 3 i0 (.int .i64 0) 8 Tryd.underlying22 hi hz0 hz1 hz2 rfl intN (fun _=>rfl) _ _ rfl HO.out _ _ rfl h63 h64 hbz1 n.id rfl ?_;intro v' w2 hown' hgr;obtain ⟨av2,cv2,rfl⟩:=own_form hown';have hb2:=grown_row HO.out hgr HV.out (by decide);have HV2:=Lib.hid hb2;have HO2:=Lib.hid hown';have HK2:=Lib.hid (HK.out.grown HO.out ⟨by decide,by decide⟩ (Nat.le_succ_of_le hb) hbz hgr);clear hown' hgr;clear c1 f1 c2;have c3:=rowc hb2;have f3:=rowf hb2;clear hb2))
   go_ret
   refine ⟨ret_of ?_,⟨_,by rw [heap_setCell_same _ _ _ _ _ _ HV2.out];simp,own_setB HO2.out HV2.out (by decide) _,by have:=HSM.out;simp;omega⟩,HK2.out.setCell hb ⟨by decide,by decide⟩ HV2.out⟩
   rw [← HRr.out,d1,d2];first | rfl | simp
 ·have d1:decide (1 ≤ n.id) = false:=decide_eq_false h1
  clear h1
  go_wp2_with (first
   | (go_at_call 74;refine HC.out.mono ?_;rintro e w9 ⟨rfl,hw9⟩;subst hw9)
   | (at_builtin;refine wpList_pushG rfl _ _ 22 rfl (b + 1) 3 i0 (.int .i64 0) 8 Tryd.underlying22 hi hz0 hz1 hz2 rfl intN (fun _=>rfl) _ _ rfl HO.out _ _ rfl h63 h64 hbz1 n.id rfl ?_;intro v' w2 hown' hgr;obtain ⟨av2,cv2,rfl⟩:=own_form hown';have hb2:=grown_row HO.out hgr HV.out (by decide);have HV2:=Lib.hid hb2;have HO2:=Lib.hid hown';have HK2:=Lib.hid (HK.out.grown HO.out ⟨by decide,by decide⟩ (Nat.le_succ_of_le hb) hbz hgr);clear hown' hgr;clear c1 f1 c2;have c3:=rowc hb2;have f3:=rowf hb2;clear hb2))
  go_ret
  refine ⟨ret_of ?_,⟨_,by rw [heap_setCell_same _ _ _ _ _ _ HV2.out];simp,own_setB HO2.out HV2.out (by decide) _,by have:=HSM.out;simp;omega⟩,HK2.out.setCell hb ⟨by decide,by decide⟩ HV2.out⟩
  rw [← HRr.out,d1];first | rfl | simp
theorem root_name (s:ByteArray):s = rootName ↔ s.toList = [114,111,111,116]:=by
 rw [ByteArray.toList_eq]
 constructor
 ·rintro rfl;rfl
 ·intro h
  rw [← ba_mk s,h];rfl
end Go.Proofs.YtkmhmnffbgedgaaDoor
/- The document's list of places: in memory; the walk of flat and Flat. -/
namespace Go.Proofs.YtkmhmnffbgedgaaDoor
set_option maxHeartbeats 8000000
set_option linter.unusedVariables false
set_option linter.unusedSimpArgs false
open Go Go.RowKit Go.ChangeShapes
theorem wpList_pushRow {P:Program} {wr:World} {ops:Array Oper} {rest:List Oper} {o:Oper} {a:Act} {Q:Exit → Act → World → Prop} (hg:o.guard = none) (s x:Operand) (t:TypeId)
  (ho:o.op = .call { callee:=.builtin .append,args:=#[s,x],argTypes:=#[t,t] })
  (base:Nat) (e:TypeId) (i:TypeInfo) (z:Value) (k bytes:Nat) (ht:P.underlying t = some (.slice e)) (hi:P.info? e = some i) (hz:i.zero = some z)
  (hsize:i.size = k) (hby:i.bytes = bytes) (hzs:z.cells.size = k) (hk0:0 < k)
  {α:Type} (f:α → List Value) (hfk:∀ y,(f y).length = k) (hf:∀ y,∀ u ∈ f y,u.oneCell' = true)
  (v:Value) (l:List α) (hs:a.eval s = v) (hown:wr.ownsRow base e k v l.length (l.flatMap f)) (e':TypeId) (g:Nat) (hx:a.eval x = .slice (some ⟨g,0,none⟩) 1 1) (hgs:g = wr.heap.size)
  (h63:l.length + 1 ≤ maxLen) (hbytes:(l.length + 1) * bytes ≤ 140737488355328) (hbase:base ≤ wr.heap.size) (y:α) (cs:Array Value) (hcs:cs.toList = f y)
  (h:∀ v' w',w'.ownsRow base e k v' (l ++ [y]).length ((l ++ [y]).flatMap f) → (wr.alloc (.cells cs e')).grownBy w' v.ownBlock → (v'.ownBlock = v.ownBlock ∨ v'.ownBlock = some (wr.heap.size + 1)) → wpList P ops Q rest (a.put o.dst v') w') :
  wpList P ops Q (o :: rest) a (wr.alloc (.cells cs e')):=by
 subst hgs
 refine wpList_plain hg fun K hK=>?_
 obtain ⟨v',w',hr,h2,h3,_,h5⟩:=run_append_own_at (P:=P) (wr.alloc (.cells cs e')) base t o.type e i z k bytes ht hi hz hsize hby hzs hk0 v l.length (l.flatMap f) (hown.alloc _) ⟨wr.heap.size,0,none⟩ 1 1 (f y) (by rw [hfk];omega) (by
  intro j u hj
  rw [Go.WideShapes.add_plain,World.cell?_alloc_at _ _ _ _ rfl,Nat.zero_add,← Array.getElem?_toList,hcs,hj]) (hf y) h63 hbytes (by simp;omega)
 unfold Oper.wp execOp
 simp only [ho,resolve,invoke,builtin,Sem.run_bind,Sem.run_pure,Result.andThen_ok,List.map_toArray,List.map_cons,List.map_nil,hs,hx,hr]
 exact hK _ _ (h v' w' (by simpa using h2) h3 (by simpa using h5))
theorem wp_pushRow {P:Program} {wr:World} {o:Oper} {a:Act} {K:Act → World → Prop} {Q:Exit → Act → World → Prop} (s x:Operand) (t:TypeId)
  (ho:o.op = .call { callee:=.builtin .append,args:=#[s,x],argTypes:=#[t,t] })
  (base:Nat) (e:TypeId) (i:TypeInfo) (z:Value) (k bytes:Nat) (ht:P.underlying t = some (.slice e)) (hi:P.info? e = some i) (hz:i.zero = some z)
  (hsize:i.size = k) (hby:i.bytes = bytes) (hzs:z.cells.size = k) (hk0:0 < k)
  {α:Type} (f:α → List Value) (hfk:∀ y,(f y).length = k) (hf:∀ y,∀ u ∈ f y,u.oneCell' = true)
  (v:Value) (l:List α) (hs:a.eval s = v) (hown:wr.ownsRow base e k v l.length (l.flatMap f)) (g:Nat) (hx:a.eval x = .slice (some ⟨g,0,none⟩) 1 1) (y:α) (cs:Array Value) (e':TypeId) (hg:wr.heap[g]? = some (.cells cs e' (0,0)))
  (hcs:cs.toList = f y) (h63:l.length + 1 ≤ maxLen) (hbytes:(l.length + 1) * bytes ≤ 140737488355328) (hbase:base ≤ wr.heap.size)
  (h:∀ v' w',w'.ownsRow base e k v' (l ++ [y]).length ((l ++ [y]).flatMap f) → wr.grownBy w' v.ownBlock → (v'.ownBlock = v.ownBlock ∨ v'.ownBlock = some wr.heap.size) → K (a.put o.dst v') w'):Oper.wp P o a wr K Q:=by
 obtain ⟨v',w',hr,h2,h3,_,h5⟩:=run_append_own_at (P:=P) wr base t o.type e i z k bytes ht hi hz hsize hby hzs hk0 v l.length (l.flatMap f) hown ⟨g,0,none⟩ 1 1 (f y) (by rw [hfk];omega) (by
  intro j u hj
  rw [Go.WideShapes.add_plain,Nat.zero_add,rowc hg,← Array.getElem?_toList,hcs,hj]) (hf y) h63 hbytes hbase
 unfold Oper.wp execOp
 simp only [ho,resolve,invoke,builtin,Sem.run_bind,Sem.run_pure,Result.andThen_ok,List.map_toArray,List.map_cons,List.map_nil,hs,hx,hr]
 exact h v' w' (by simpa using h2) h3 h5
structure PlV where
 n:Nd
 u:Value
 deep:Int
 around:Int
def PlV.pl (p:PlV):Pl:=⟨p.n,p.deep,p.around⟩
def cell1 (u:Value):Value:=if u.oneCell' = true then u else .nilIface
theorem cell1_one (u:Value):(cell1 u).oneCell' = true:=by unfold cell1;split <;> first | assumption | rfl
def plCells (p:PlV):List Value:=[.int .i64 p.n.id,.string p.n.name,.int .i64 p.n.rep,.int .i64 p.n.kind,cell1 p.u,.int .i64 p.deep,.int .i64 p.around]
theorem plCells_one (p:PlV):∀ u ∈ plCells p,u.oneCell' = true:=by
 intro u hu
 simp only [plCells,List.mem_cons,List.not_mem_nil,or_false] at hu
 rcases hu with rfl | rfl | rfl | rfl | rfl | rfl | rfl <;> first | rfl | exact cell1_one _
theorem pl_info:(Tryd.prog.info? 80).map (fun i=>(i.zero,i.size,i.bytes)) = some (some (.agg #[.int .i64 0,.string ByteArray.empty,.int .i64 0,.int .i64 0,.slice none 0 0,.int .i64 0,.int .i64 0]),7,80):=by kernel_rfl
def PlsOk (P:Nat → Prop) (w:World) (L:List PlV):Prop:=∀ p ∈ L,IsNds P w p.u p.n.sub
theorem flatF_len:(∀ n,∀ (l:List Pl) (k ar:Int),l.length ≤ 2001 → (flatF l n k ar).length ≤ 2001) ∧ ∀ s,∀ (l:List Pl) (k ar:Int),l.length ≤ 2001 → (flatFL l s k ar).length ≤ 2001:=by
 refine tree2 (fun n h l k ar hl=>?_) (fun l k ar hl=>?_) (fun x r h1 h2 l k ar hl=>?_)
 ·rw [flatF_eq]
  split
  ·exact hl
  ·exact h _ _ _ (by simp;omega)
 ·simpa [flatFL] using hl
 ·simp only [flatFL];exact h2 _ _ _ (h1 _ _ _ hl)
theorem own_len {w:World} {B n m s:Nat} {e:TypeId} {v:Value} {xs:List Value} (h:w.ownsRow B e s v n xs) (hm:m = n):w.ownsRow B e s v m xs:=by subst hm;exact h
def FlatRet (B:Nat) (w0:World) (F:List Pl) (e:Ending) (w:World):Prop :=
 ∃ v L,e = .returned v ∧ w.ownsRow B 80 7 v L.length (L.flatMap plCells) ∧ L.map PlV.pl = F ∧ PlsOk (· < B) w L ∧ Kp B (fun _=>False) w0 w
set_option maxRecDepth 100000 in
theorem flat_any (B:Nat):∀ (n:Nd),∀ (u v:Value) (L:List PlV) (k ar:Int) (w:World),B ≤ w.heap.size → IsNds (· < B) w u n.sub → (∀ x ∈ nodes n,x.Ok1) → w.ownsRow B 80 7 v L.length (L.flatMap plCells) → PlsOk (· < B) w L →
  L.length ≤ 2001 → 0 ≤ k → k ≤ 101 → -1 ≤ ar → ar ≤ 100000 →
  Calls Tryd.prog 48 #[v,.agg (ndA n u),.int .i64 k,.int .i64 ar] w (FlatRet B w (flatF (L.map PlV.pl) n k ar)):=by
 apply Nd.ind
 intro n IH u v L k ar w hB hN hO hown hok hlL hk0 hk1 ha0 ha1
 have hOs:∀ x ∈ nodesL n.sub,x.Ok1:=fun x hx=>hO x (by rw [nodes_eq];exact List.mem_cons_of_mem _ hx)
 have hO1:=hO n (by rw [nodes_eq];exact List.mem_cons_self ..)
 have hlen:=hO1.sub
 obtain ⟨F,hF⟩:∃ F,flatF (L.map PlV.pl) n k ar = F:=⟨_,rfl⟩
 rw [hF]
 rw [flatF_eq,List.length_map] at hF
 obtain ⟨l,hl⟩:∃ l,n.sub = l:=⟨_,rfl⟩
 obtain ⟨ad,cp,rfl⟩:=hN.form
 obtain ⟨av,cv,rfl⟩:=own_form hown
 rw [hl] at hN hF hlen hOs IH ⊢
 obtain ⟨len,hnl⟩:∃ len,l.length = len:=⟨_,rfl⟩
 rw [hnl] at hN hlen ⊢
 obtain ⟨N,hLN⟩:∃ N,L.length = N:=⟨_,rfl⟩
 rw [hLN] at hown hlL hF ⊢
 have HLN:=Lib.hid hLN;have HL:=Lib.hid hnl;have HF:=Lib.hid hF;have HN:=Lib.hid hN;have HOs:=Lib.hid hOs;have HIH:=Lib.hid IH;have HOK:=Lib.hid hok;have HOW:=Lib.hid hown
 have HNS:=Lib.hid hl
 clear hLN hnl hl hF hN hOs IH hO hO1 hok hown
 unfold ndA
 obtain ⟨i0,hi,hz0,hz1,hz2⟩:=info_parts pl_info
 have hw1:Below w.heap.size w (w.alloc (.cells #[.int .i64 n.id,.string n.name,.int .i64 n.rep,.int .i64 n.kind,.slice ad len cp] 47)):=(Below.refl _ _).alloc (Nat.le_refl _) _
 have HW1:=Lib.hid hw1
 have HR1:=Lib.hid (heap_alloc_new w (.cells #[.int .i64 n.id,.string n.name,.int .i64 n.rep,.int .i64 n.kind,.slice ad len cp] 47))
 clear hw1
 by_cases hc:2000 < N ∨ 100 < k
 case pos =>
  have HF2:=HF.out
  rw [if_pos hc] at HF2
  have HF3:=Lib.hid HF2
  clear HF2
  by_cases h1:2000 < N
  ·have d1:decide ((2000:Int) < (N:Int)) = true:=decide_eq_true (by omega)
   clear hc h1
   go_enter Tryd.func48,Tryd.ntmps48
   go_wp2_with fail
   go_ret
   exact ⟨_,L,rfl,own_len (own_blw HOW.out HW1.out) HLN.out,HF3.out,fun p hp=>(HOK.out p hp).under (HW1.out.mono hB),Kp.of_below HW1.out hB⟩
  ·have d1:decide ((2000:Int) < (N:Int)) = false:=decide_eq_false (by omega)
   have h2:100 < k:=hc.resolve_left h1
   have d2:decide (100 < k) = true:=decide_eq_true h2
   clear hc h1 h2
   go_enter Tryd.func48,Tryd.ntmps48
   go_wp2_with fail
   go_ret
   exact ⟨_,L,rfl,own_len (own_blw HOW.out HW1.out) HLN.out,HF3.out,fun p hp=>(HOK.out p hp).under (HW1.out.mono hB),Kp.of_below HW1.out hB⟩
 have d1:decide ((2000:Int) < (N:Int)) = false:=decide_eq_false (by omega)
 have d2:decide (100 < k) = false:=decide_eq_false fun h=>hc (.inr h)
 have hk2:k ≤ 100:=by omega
 have HF2:=HF.out
 rw [if_neg hc] at HF2
 have hlL2:N ≤ 2000:=by omega
 clear HF hc
 have HF:=Lib.hid HF2
 clear HF2
 go_enter Tryd.func48,Tryd.ntmps48
 go_upto_region 4 with fail
 replace HOW:=Lib.hid (own_blw HOW.out HW1.out);replace HOK:=Lib.hid (show PlsOk (· < B) _ L from fun p hp=>(HOK.out p hp).under (HW1.out.mono hB));have HK:=Lib.hid (Kp.of_below (M:=fun _=>False) HW1.out hB)
 have hbz:=Nat.le_trans hB HW1.out.size
 generalize (w.alloc (.cells #[.int .i64 n.id,.string n.name,.int .i64 n.rep,.int .i64 n.kind,.slice ad len cp] 47)) = w1 at *
 clear HW1
 have RN:=Lib.hid HR1.out
 clear HR1
 have cN:=rowc RN.out
 have h63:L.length + 1 ≤ maxLen:=by have:=HLN.out;unfold maxLen;omega
 have h64:(L.length + 1) * 80 ≤ 140737488355328:=by have:=HLN.out;omega
 obtain ⟨p,hp⟩:∃ p:PlV,p = ⟨n,.slice ad len cp,k,ar⟩:=⟨_,rfl⟩
 have HPC:=Lib.hid (show [.int .i64 n.id,.string n.name,.int .i64 n.rep,.int .i64 n.kind,.slice ad len cp,.int .i64 k,.int .i64 ar] = plCells p by subst hp;rfl)
 have HPL:=Lib.hid (show p.pl = ⟨n,k,ar⟩ by subst hp;rfl)
 have HPO:=Lib.hid (show ∀ W,IsNds (· < B) W (.slice ad len cp) l → IsNds (· < B) W p.u p.n.sub by subst hp;intro W h;rw [HNS.out];exact h)
 clear hp
 go_wp2_with (at_builtin;refine wpList_pushRow rfl _ _ 77 rfl B 80 i0 _ 7 80 Tryd.underlying77 hi hz0 hz1 hz2 rfl (by decide) plCells (fun _=>rfl) plCells_one _ L rfl (own_len HOW.out HLN.out) _ _ rfl rfl h63 h64 hbz p _ HPC.out ?_;intro v' w2 hown' hgr _;have HO2:=Lib.hid hown';have HG2:=Lib.hid hgr;clear hown' hgr)
 have hkg:Kp B (fun _=>False) w1 w2:=(Kp.refl B _ w1).grown HOW.out ⟨by decide,by decide⟩ (Nat.le_refl _) hbz HG2.out
 replace RN:=Lib.hid (hkg.keep _ _ _ _ (.inl rfl) id RN.out)
 replace HK:=Lib.hid (HK.out.trans hkg)
 have hok2:PlsOk (· < B) w2 (L ++ [p]):=fun q hq=>by
  rcases List.mem_append.1 hq with hq | hq
  ·exact (HOK.out q hq).under hkg.below
  ·obtain rfl:q = p:=by simpa using hq
   exact HPO.out w2 (HN.out.under HK.out.below)
 have hm2:(L ++ [p]).map PlV.pl = L.map PlV.pl ++ [⟨n,k,ar⟩]:=by simp [HPL.out]
 have hl2:(L ++ [p]).length ≤ 2001:=by have:=HLN.out;simp;omega
 have HF0:=HF.out
 rw [← hm2] at HF0
 have HL2:=Lib.hid hl2;have HOK2:=Lib.hid hok2;have HF2:=Lib.hid HF0
 clear hkg hok2 hm2 hl2 HF0 HF HPL HPO HPC HOK HOW cN h63 h64 HG2
 generalize L ++ [p] = L2 at *
 clear HLN
 go_loopw [0,10] (fun s0 i wr=>∃ (j:Nat) (v3:Value) (L3:List PlV),j ≤ len ∧ i = .int .i64 (j:Nat) ∧ v3 = s0 ∧ Hid (wr.ownsRow B 80 7 v3 L3.length (L3.flatMap plCells)) ∧ Hid (flatFL (L3.map PlV.pl) (l.drop j) (k + 1) (N:Nat) = F) ∧ Hid (PlsOk (· < B) wr L3) ∧ Hid (L3.length ≤ 2001) ∧ Hid (Kp B (fun _=>False) w wr) ∧ wr.heap[w.heap.size]? = some (.cells #[.int .i64 n.id,.string n.name,.int .i64 n.rep,.int .i64 n.kind,.slice ad len cp] 47 (0,0))) (fun _ i _=>len - (intOf i).toNat)
 case atStart=>exact ⟨0,_,L2,Nat.zero_le _,rfl,rfl,HO2.out,HF2.out,HOK2.out,HL2.out,HK.out,RN.out⟩
 case round =>
  obtain ⟨j,v3,L3,hj,rfl,hv3,HO,HFj,HOKj,HLj,HKj,rN⟩:=hrel
  subst hv3
  clear RN HK HL2 HOK2 HF2 HO2
  have RN:=Lib.hid rN
  clear rN
  have hbz3:=Nat.le_trans hB HKj.out.below.size
  by_cases hlt:j < len
  ·have hjl:j < l.length:=by rw [HL.out];exact hlt
   obtain ⟨b0,off,rfl,hPb,hb0,hat⟩:=(HN.out.under HKj.out.below).at (by omega)
   obtain ⟨ux,hcx,hnx⟩:=hat j l[j] (List.getElem?_eq_getElem hjl)
   have hdr:l.drop j = l[j] :: l.drop (j + 1):=List.drop_eq_getElem_cons hjl
   have hOx:∀ y ∈ nodes l[j],y.Ok1:=fun y hy=>HOs.out y (nodesL_mem (List.getElem_mem hjl) hy)
   have hIx:=HIH.out l[j] (List.getElem_mem hjl)
   have hin:(j:Int) < (len:Int):=by omega
   have Hlt:=Lib.hid hlt
   have hE2:=HFj.out
   rw [hdr] at hE2
   simp only [flatFL] at hE2
   generalize l[j] = x at *
   obtain ⟨ax,cx,rfl⟩:=hnx.form
   unfold NdAt ndA at hcx
   have HCX:=Lib.hid hcx;have HE2:=Lib.hid hE2
   have HCL:=Lib.hid (hIx (.slice ax x.sub.length cx) v3 L3 (k + 1) (N:Nat) wr hbz3 hnx hOx HO.out HOKj.out HLj.out (by omega) (by omega) (by omega) (by omega))
   unfold ndA at HCL
   have HL3:=Lib.hid HLj.out
   clear hat hjl hdr hOx hIx hcx hPb hE2 hnx HFj HO HOKj HLj
   have cN:=rowc RN.out
   go_wp2_with (refine wpList_load_cells rfl 47 _ rfl b0 (off + j * 5) rfl #[.int .i64 x.id,.string x.name,.int .i64 x.rep,.int .i64 x.kind,.slice ax x.sub.length cx] _ HCX.out Tryd.underlying47 rfl nd_info ?_)
   refine HCL.out.mono ?_;rintro e w4 ⟨v4,L4,rfl,ho4,hm4,hok4,hk4⟩
   have RN4:=Lib.hid (hk4.keep _ _ _ _ (.inl rfl) id RN.out)
   have HO4:=Lib.hid ho4;have HOK4:=Lib.hid hok4;have HK4:=Lib.hid (HKj.out.trans hk4)
   have HL4:=Lib.hid (show L4.length ≤ 2001 by have:=flatF_len.1 x (L3.map PlV.pl) (k + 1) (N:Nat) (by rw [List.length_map];exact HL3.out);rw [← hm4,List.length_map] at this;exact this)
   have hE4:=HE2.out
   rw [← hm4] at hE4
   have HE4:=Lib.hid hE4
   clear ho4 hok4 hk4 hm4 hE4 HE2 HCL cN RN HCX
   go_wp2_with fail
   go_roundw
   case rel=>exact ⟨j + 1,v4,L4,Hlt.out,by go_num,rfl,HO4.out,HE4.out,HOK4.out,HL4.out,HK4.out,RN4.out⟩
   case measure=>have:=Hlt.out;simp [intOf];omega
  ·obtain rfl:j = len:=by omega
   have hE2:=HFj.out
   rw [List.drop_of_length_le (Nat.le_of_eq HL.out)] at hE2
   simp only [flatFL] at hE2
   have HE2:=Lib.hid hE2
   clear hE2 HFj
   have cN:=rowc RN.out
   go_wp2_with fail
   go_ret
   exact ⟨v3,L3,rfl,HO.out,HE2.out,HOKj.out,HKj.out⟩
set_option maxRecDepth 100000 in
theorem flatB_any (B:Nat) (n:Nd) (u:Value) (w:World) (hB:B ≤ w.heap.size) (hN:IsNds (· < B) w u n.sub) (hO:∀ x ∈ nodes n,x.Ok1) :
  Calls Tryd.prog 33 #[.agg (ndA n u)] w fun e w'=>FlatRet B w (flatF [] n 1 (-1)) e w':=by
 have hw:Below w.heap.size w (w.alloc (.cells (ndA n u) 47)):=(Below.refl _ _).alloc (Nat.le_refl _) _
 have hc:=flat_any B n u (.slice none 0 0) [] 1 (-1) _ (Nat.le_trans hB hw.size) (hN.under (hw.mono hB)) hO (World.ownsRow_nil _ _ _ _) (fun p hp=>by simp at hp) (by simp) (by omega) (by omega) (by omega) (by omega)
 have HC:=Lib.hid hc
 have HK:=Lib.hid (Kp.of_below (M:=fun _=>False) hw hB)
 obtain ⟨ad,cp,rfl⟩:=hN.form
 clear hc hw hN hO
 unfold ndA at *
 go_enter Tryd.func33,Tryd.ntmps33
 go_wp2_with fail
 refine HC.out.mono ?_;rintro e w4 ⟨v4,L4,rfl,ho4,hm4,hok4,hk4⟩
 have H:=Lib.hid (show FlatRet B w (flatF [] n 1 (-1)) (.returned v4) w4 from ⟨v4,L4,rfl,ho4,hm4,hok4,HK.out.trans hk4⟩)
 clear ho4 hm4 hok4 hk4 HC
 go_wp2_with fail
 go_ret
 exact H.out
theorem flat1_any (n:Nd) (u:Value) (w:World) (hN:IsNds (· < w.heap.size) w u n.sub) (hO:∀ x ∈ nodes n,x.Ok1) :
  Calls Tryd.prog 33 #[.agg (ndA n u)] w fun e w'=>FlatRet w.heap.size w (flatF [] n 1 (-1)) e w':=flatB_any w.heap.size n u w (Nat.le_refl _) hN hO
end Go.Proofs.YtkmhmnffbgedgaaDoor
/- The walks of the document's IsName and SchemaError. -/
namespace Go.Proofs.YtkmhmnffbgedgaaDoor
set_option linter.unusedVariables false
set_option linter.unusedSimpArgs false
open Go Go.RowKit Go.ChangeShapes
theorem flat7 (L:List PlV):∀ (i:Nat) (p:PlV),L[i]? = some p → ∀ j,j < 7 → (L.flatMap plCells)[i * 7 + j]? = (plCells p)[j]?:=by
 induction L with
 | nil=>intro i p h;simp at h
 | cons a r ih =>
  intro i p h j hj
  rw [List.flatMap_cons]
  have e:(plCells a).length = 7:=rfl
  cases i with
  | zero=>simp at h;subst h;rw [List.getElem?_append_left (by rw [e];omega)];simp
  | succ i=>rw [List.getElem?_append_right (by rw [e];omega),e,show (i + 1) * 7 + j - 7 = i * 7 + j by omega];exact ih i p (by simpa using h) j hj
structure PlsAt (w:World) (g:Nat) (L:List PlV):Prop where
 id:∀ (i:Nat) p,L[i]? = some p → w.cell? ⟨g,i * 7,none⟩ = some (.int .i64 p.n.id)
 name:∀ (i:Nat) p,L[i]? = some p → w.cell? ⟨g,i * 7 + 1,none⟩ = some (.string p.n.name)
 rep:∀ (i:Nat) p,L[i]? = some p → w.cell? ⟨g,i * 7 + 2,none⟩ = some (.int .i64 p.n.rep)
 kind:∀ (i:Nat) p,L[i]? = some p → w.cell? ⟨g,i * 7 + 3,none⟩ = some (.int .i64 p.n.kind)
 sub:∀ (i:Nat) p,L[i]? = some p → w.cell? ⟨g,i * 7 + 4,none⟩ = some (cell1 p.u)
 deep:∀ (i:Nat) p,L[i]? = some p → w.cell? ⟨g,i * 7 + 5,none⟩ = some (.int .i64 p.deep)
 around:∀ (i:Nat) p,L[i]? = some p → w.cell? ⟨g,i * 7 + 6,none⟩ = some (.int .i64 p.around)
theorem pls_at {w:World} {B:Nat} {v:Value} {L:List PlV} (h:w.ownsRow B 80 7 v L.length (L.flatMap plCells)) (hl:0 < L.length) :
  ∃ g cap,v = .slice (some ⟨g,0,none⟩) L.length cap ∧ B ≤ g ∧ g < w.heap.size ∧ PlsAt w g L:=by
 rcases h.2 with ⟨rfl,h0⟩ | ⟨g,cap,cur,hv,h1,h2,h3⟩
 ·omega
 ·subst hv
  have hc:∀ (i:Nat) p,L[i]? = some p → ∀ j,j < 7 → w.cell? ⟨g,i * 7 + j,none⟩ = (plCells p)[j]?:=fun i p hp j hj=>by
   have hil:=(List.getElem?_eq_some_iff.1 hp).1
   rw [h.cellAt _ (by omega),flat7 L i p hp j hj]
  refine ⟨g,cap,rfl,h1,(Array.getElem?_eq_some_iff.1 h2).1,⟨?_,?_,?_,?_,?_,?_,?_⟩⟩ <;> intro i p hp
  ·exact hc i p hp 0 (by omega)
  ·exact hc i p hp 1 (by omega)
  ·exact hc i p hp 2 (by omega)
  ·exact hc i p hp 3 (by omega)
  ·exact hc i p hp 4 (by omega)
  ·exact hc i p hp 5 (by omega)
  ·exact hc i p hp 6 (by omega)
theorem PlsAt.keep {w w':World} {g:Nat} {L:List PlV} (h:PlsAt w g L) (hk:w'.heap[g]? = w.heap[g]?):PlsAt w' g L:=by
 have e:∀ o,w'.cell? ⟨g,o,none⟩ = w.cell? ⟨g,o,none⟩:=fun o=>World.cell?_of_block (w:=w) hk
 exact ⟨fun i p hp=>(e _).trans (h.id i p hp),fun i p hp=>(e _).trans (h.name i p hp),fun i p hp=>(e _).trans (h.rep i p hp),fun i p hp=>(e _).trans (h.kind i p hp),fun i p hp=>(e _).trans (h.sub i p hp),fun i p hp=>(e _).trans (h.deep i p hp),fun i p hp=>(e _).trans (h.around i p hp)⟩
theorem map_at {L:List PlV} {q:Nat} {p:PlV} (h:L[q]? = some p):(L.map PlV.pl)[q]? = some p.pl:=by rw [List.getElem?_map,h];rfl
end Go.Proofs.YtkmhmnffbgedgaaDoor
