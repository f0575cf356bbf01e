/- Merged texts: Known, StOf, Two. -/
import Derived.Test.YtapiabmmfmfaeaaGreatDoorMCol
import Derived.Test.YtapiabmmfmfaeaaGreatDoorMSt
import Derived.Deep.DeepCutAuto
import Derived.Test.YtapiabmmfmfaeaaGreatDoorMErr
/- What is known of a column: plain Lean, and the walk of stats.Known. -/
namespace Go.Proofs.YtapiabmmfmfaeaaGreatDoor
set_option maxHeartbeats 20000000
set_option linter.unusedVariables false
open Go Go.RowKit Go.ChangeShapes
def pickLo (m y:Val):Val:=bif y.less m then y else m
def pickHi (m y:Val):Val:=bif m.less y then y else m
def loOf:List Val → Val
 | []=>zv
 | x :: l=>l.foldl pickLo x
def hiOf:List Val → Val
 | []=>zv
 | x :: l=>l.foldl pickHi x
def knownSt (c:Col):St:=⟨c.rep.length,(c.rep.length:Int) - (c.vals.length:Nat),!c.vals.isEmpty,loOf c.vals,hiOf c.vals⟩
theorem loOf_snoc (l:List Val) (h:l ≠ []) (y:Val):loOf (l ++ [y]) = pickLo (loOf l) y:=by
 cases l with
 | nil=>exact absurd rfl h
 | cons x l=>simp [loOf,List.foldl_append]
theorem hiOf_snoc (l:List Val) (h:l ≠ []) (y:Val):hiOf (l ++ [y]) = pickHi (hiOf l) y:=by
 cases l with
 | nil=>exact absurd rfl h
 | cons x l=>simp [hiOf,List.foldl_append]
theorem foldl_pick (g:Val → Val → Val) (hg:∀ m y,g m y = m ∨ g m y = y):∀ (l:List Val) (x:Val),l.foldl g x ∈ x :: l
 | [],x=>by simp
 | y :: l,x=>by
  have ih:=foldl_pick g hg l (g x y)
  rw [List.foldl_cons]
  rcases List.mem_cons.1 ih with h | h
  ·rcases hg x y with e | e
   ·rw [h,e];simp
   ·rw [h,e];simp
  ·exact List.mem_cons_of_mem _ (List.mem_cons_of_mem _ h)
theorem loOf_mem (l:List Val) (h:l ≠ []):loOf l ∈ l:=by
 cases l with
 | nil=>exact absurd rfl h
 | cons x l=>exact foldl_pick pickLo (fun m y=>by unfold pickLo;cases y.less m <;> simp) l x
theorem hiOf_mem (l:List Val) (h:l ≠ []):hiOf l ∈ l:=by
 cases l with
 | nil=>exact absurd rfl h
 | cons x l=>exact foldl_pick pickHi (fun m y=>by unfold pickHi;cases m.less y <;> simp) l x
set_option maxRecDepth 100000 in
theorem knownS_any (c:Col) (vc:Value) (w:World) (hc:IsCol w vc c) (co:c.Ok) :
  Calls Tryz.prog 22 #[vc] w fun e w'=>e = .returned (.agg (stA (knownSt c))) ∧ Below w.heap.size w w':=by
 obtain ⟨iv,hiv,hzv,hsv⟩:=val_info
 have hsz:(Tryz.prog.info? 41).map (·.size) = some (valA ⟨0,0,⟨#[]⟩⟩).size:=by rw [hiv];simp [hsv,valA]
 obtain ⟨a,b,d,rfl,ha,hb,hd⟩:=hc
 have hml:c.rep.length ≤ 9223372036854775807:=by have:=co.rep.1;unfold maxLen at this;exact this
 have hvl:c.vals.length ≤ 9223372036854775807:=by have:=co.vals.1;unfold maxLen at this;exact this
 obtain ⟨a1,q1,rfl⟩:=ha.form
 obtain ⟨a3,q3,rfl⟩:=hd.form
 have hkn:stA (knownSt c) = stA ⟨(c.rep.length:Nat),(c.rep.length:Int) - (c.vals.length:Nat),!c.vals.isEmpty,loOf c.vals,hiOf c.vals⟩:=rfl
 rw [hkn]
 have Hd:=Lib.hid hd;have Hco:=Lib.hid co
 generalize c.rep.length = n at *
 obtain ⟨L,hL⟩:∃ L,c.vals.length = L:=⟨_,rfl⟩
 rw [hL] at hvl ⊢
 have HL:=Lib.hid hL
 clear ha hb hd co hkn hL
 unfold colA
 go_enter Tryz.func22,Tryz.ntmps22
 go_wp2_with fail
 go_loopw [20] (fun q wr=>∃ k:Nat,k ≤ L ∧ q = .int .i64 (k:Nat) ∧ Below w.heap.size w wr ∧ w.heap.size + 2 < wr.heap.size ∧ wr.heap[w.heap.size + 1]? = some (.cells #[.int .i64 0,.int .i64 0,.bool false,.int .i64 0,.int .i64 0,.string ⟨#[]⟩,.int .i64 0,.int .i64 0,.string ⟨#[]⟩] 43 (0,0)) ∧ wr.heap[w.heap.size + 1 + 1]? = some (.cells (stA ⟨(n:Nat),(n:Int) - (L:Nat),!(c.vals.take k).isEmpty,loOf (c.vals.take k),hiOf (c.vals.take k)⟩) 43 (0,0))) (fun q _=>L - (intOf q).toNat)
 case atStart =>
  refine ⟨0,Nat.zero_le _,rfl,((((Below.refl _ _).alloc (Nat.le_refl _) _).alloc (by simp) _).alloc (by simp;omega) _),by simp,?_,?_⟩
  ·rw [Lib.alloc_old _ _ _ (by simp)]
   have h:=heap_alloc_new (w.alloc (.cells #[.int .i64 c.id,.slice a1 n q1,b,.slice a3 L q3] 29)) (.cells #[.int .i64 0,.int .i64 0,.bool false,.int .i64 0,.int .i64 0,.string ⟨#[]⟩,.int .i64 0,.int .i64 0,.string ⟨#[]⟩] 43)
   simpa using h
  ·have h:=heap_alloc_new ((w.alloc (.cells #[.int .i64 c.id,.slice a1 n q1,b,.slice a3 L q3] 29)).alloc (.cells #[.int .i64 0,.int .i64 0,.bool false,.int .i64 0,.int .i64 0,.string ⟨#[]⟩,.int .i64 0,.int .i64 0,.string ⟨#[]⟩] 43)) (.cells #[.int .i64 (n:Nat),.int .i64 ((n:Int) - (L:Nat)),.bool false,.int .i64 0,.int .i64 0,.string ⟨#[]⟩,.int .i64 0,.int .i64 0,.string ⟨#[]⟩] 43)
   simpa [stA,loOf,hiOf,zv] using h
 case round =>
  obtain ⟨k,hk,rfl,hbr,hzr,rR,rS⟩:=hrel
  have RR:=Lib.hid rR;have RS:=Lib.hid rS;have Hbr:=Lib.hid hbr
  clear rR rS hbr
  by_cases hlt:k < L
  ·have hkl:k < c.vals.length:=by rw [HL.out];exact hlt
   obtain ⟨b0,off,rfl,-,hlt0,hcv⟩:=(Hd.out.below Hbr.out (Nat.le_refl _)).at (by omega)
   have hin:(k:Int) < (L:Int):=by omega
   have hcx:=hcv k c.vals[k] (List.getElem?_eq_getElem hkl)
   have hox:=Hco.out.vals.2 c.vals[k] (List.getElem_mem hkl)
   have htk:c.vals.take (k + 1) = c.vals.take k ++ [c.vals[k]]:=List.take_succ_eq_append_getElem hkl
   have hmem:∀ x ∈ c.vals.take k,x.Ok:=fun x hx=>Hco.out.vals.2 x (List.mem_of_mem_take hx)
   have Htk:=Lib.hid htk;have Hmem:=Lib.hid hmem
   generalize c.vals[k] = y at *
   have Hcx:=Lib.hid hcx.cells
   clear hcv hcx htk hmem hkl
   have hv3:w.heap.size + 2 < (wr.alloc (.cells #[.int .i64 y.k,.int .i64 y.n,.string y.s] 41)).heap.size:=by simp;omega
   have RV3:=Lib.hid (heap_alloc_new wr (.cells #[.int .i64 y.k,.int .i64 y.n,.string y.s] 41))
   have RS3:=Lib.hid ((Lib.alloc_old wr (.cells #[.int .i64 y.k,.int .i64 y.n,.string y.s] 41) (w.heap.size + 1 + 1) (by omega)).trans RS.out)
   have RR3:=Lib.hid ((Lib.alloc_old wr (.cells #[.int .i64 y.k,.int .i64 y.n,.string y.s] 41) (w.heap.size + 1) (by omega)).trans RR.out)
   have Hb3:=Lib.hid (Hbr.out.alloc Hbr.out.size (.cells #[.int .i64 y.k,.int .i64 y.n,.string y.s] 41))
   have hne:w.heap.size + 1 + 1 ≠ wr.heap.size:=by omega
   go_upto_region 5 with (refine wpList_load_cells rfl 41 _ rfl b0 (off + k * 3) rfl #[.int .i64 y.k,.int .i64 y.n,.string y.s] _ Hcx.out Tryz.underlying41 rfl hsz ?_)
   generalize wr.alloc (.cells #[.int .i64 y.k,.int .i64 y.n,.string y.s] 41) = w3 at *
   generalize wr.heap.size = gv at *
   have cV:=rowc RV3.out
   by_cases hk0:k = 0
   ·subst hk0
    have RS0:Hid (w3.heap[w.heap.size + 1 + 1]? = some (.cells #[.int .i64 (n:Nat),.int .i64 ((n:Int) - (L:Nat)),.bool false,.int .i64 0,.int .i64 0,.string ⟨#[]⟩,.int .i64 0,.int .i64 0,.string ⟨#[]⟩] 43 (0,0))):=Lib.hid (by have h:=RS3.out;rw [show c.vals.take 0 = [] from rfl] at h;simpa [stA,loOf,hiOf,zv] using h)
    have cS:=rowc RS0.out;have fS:=rowf RS0.out
    go_wp2_with fail
    obtain ⟨p1,p2,p3,p4⟩:=set3_row (x:=.int .i64 y.k) (y:=.int .i64 y.n) (z:=.string y.s) 3 RS0.out (by simp)
    obtain ⟨q1,q2,q3,q4⟩:=set3_row (x:=.int .i64 y.k) (y:=.int .i64 y.n) (z:=.string y.s) 6 p1 (by simp [setPart])
    obtain ⟨r1,r2,r3,r4⟩:=store_cell_row (j:=2) (v:=.bool true) q1
    go_roundw
    case rel =>
     refine ⟨1,by omega,rfl,Hb3.out.trans (((p3.trans q3).trans r3).mono (by omega)),by rw [r4,q4,p4];omega,?_,?_⟩
     ·rw [r2 _ (by omega),q2 _ (by omega),p2 _ (by omega)];exact RR3.out
     ·rw [show (1:Nat) = 0 + 1 from rfl,Htk.out];exact r1
    case measure=>simp [intOf];omega
   ·have hnil:c.vals.take k ≠ []:=by
     intro h
     have h2:=congrArg List.length h
     rw [List.length_take,HL.out] at h2
     simp at h2;omega
    have RSk:Hid (w3.heap[w.heap.size + 1 + 1]? = some (.cells (stA ⟨(n:Nat),(n:Int) - (L:Nat),true,loOf (c.vals.take k),hiOf (c.vals.take k)⟩) 43 (0,0))):=Lib.hid (by
     have h:=RS3.out
     rwa [show (!(c.vals.take k).isEmpty) = true by simpa using hnil] at h)
    have hlo:=Hmem.out _ (loOf_mem _ hnil);have hhi:=Hmem.out _ (hiOf_mem _ hnil)
    have Hlo:=Lib.hid (loOf_snoc (c.vals.take k) hnil y);have Hhi:=Lib.hid (hiOf_snoc (c.vals.take k) hnil y)
    have Hnil:=Lib.hid hnil
    clear hnil
    generalize loOf (c.vals.take k) = lo at *
    generalize hiOf (c.vals.take k) = hi at *
    have hk0':((k:Int) == 0) = false:=by simp;omega
    cases t1:y.less lo <;> cases t2:hi.less y
    ·have HA:=Lib.hid (fun w1=>less_at y lo hox hlo _ t1 w1)
     have HB:=Lib.hid (fun w1=>less_at hi y hhi hox _ t2 w1)
     have Hf:Hid (loOf (c.vals.take (k + 1)) = lo ∧ hiOf (c.vals.take (k + 1)) = hi):=Lib.hid ⟨by rw [Htk.out,Hlo.out];unfold pickLo;rw [t1];rfl,by rw [Htk.out,Hhi.out];unfold pickHi;rw [t2];rfl⟩
     clear hox hlo hhi t1 t2
     have RS0:Hid (w3.heap[w.heap.size + 1 + 1]? = some (.cells #[.int .i64 (n:Nat),.int .i64 ((n:Int) - (L:Nat)),.bool true,.int .i64 lo.k,.int .i64 lo.n,.string lo.s,.int .i64 hi.k,.int .i64 hi.n,.string hi.s] 43 (0,0))):=RSk
     have cS:=rowc RS0.out
     go_wp2_with fail
     refine (HA.out _).mono ?_;rintro e w4 ⟨rfl,hb4⟩
     have RS4:=Lib.hid (row_keep hb4 RS0.out);have RR4:=Lib.hid (row_keep hb4 RR3.out);have RV4:=Lib.hid (row_keep hb4 RV3.out);have Hb4:=Lib.hid (Hb3.out.trans (hb4.mono Hb3.out.size))
     have hv4:w.heap.size + 2 < w4.heap.size:=by have:=hb4.size;omega
     clear hb4 cS cV
     have cS4:=rowc RS4.out;have fS4:=rowf RS4.out;have cV4:=rowc RV4.out
     go_wp2_with fail
     refine (HB.out _).mono ?_;rintro e w5 ⟨rfl,hb5⟩
     have RS5:=Lib.hid (row_keep hb5 RS4.out);have RR5:=Lib.hid (row_keep hb5 RR4.out);have RV5:=Lib.hid (row_keep hb5 RV4.out);have Hb5:=Lib.hid (Hb4.out.trans (hb5.mono Hb4.out.size))
     have hv5:w.heap.size + 2 < w5.heap.size:=by have:=hb5.size;omega
     clear hb5 cS4 fS4 cV4
     have cS5:=rowc RS5.out;have fS5:=rowf RS5.out;have cV5:=rowc RV5.out
     go_wp2_with fail
     obtain ⟨r1,r2,r3,r4⟩:=store_cell_row (j:=2) (v:=.bool true) RS5.out
     go_roundw
     case rel =>
      refine ⟨k + 1,by omega,by go_num,Hb5.out.trans (r3.mono (by omega)),by rw [r4];omega,?_,?_⟩
      ·rw [r2 _ (by omega)];exact RR5.out
      ·rw [Hf.out.1,Hf.out.2,show (!(c.vals.take (k + 1)).isEmpty) = true by rw [Htk.out];simp];exact r1
     case measure=>simp [intOf];omega
    ·have HA:=Lib.hid (fun w1=>less_at y lo hox hlo _ t1 w1)
     have HB:=Lib.hid (fun w1=>less_at hi y hhi hox _ t2 w1)
     have Hf:Hid (loOf (c.vals.take (k + 1)) = lo ∧ hiOf (c.vals.take (k + 1)) = y):=Lib.hid ⟨by rw [Htk.out,Hlo.out];unfold pickLo;rw [t1];rfl,by rw [Htk.out,Hhi.out];unfold pickHi;rw [t2];rfl⟩
     clear hox hlo hhi t1 t2
     have RS0:Hid (w3.heap[w.heap.size + 1 + 1]? = some (.cells #[.int .i64 (n:Nat),.int .i64 ((n:Int) - (L:Nat)),.bool true,.int .i64 lo.k,.int .i64 lo.n,.string lo.s,.int .i64 hi.k,.int .i64 hi.n,.string hi.s] 43 (0,0))):=RSk
     have cS:=rowc RS0.out
     go_wp2_with fail
     refine (HA.out _).mono ?_;rintro e w4 ⟨rfl,hb4⟩
     have RS4:=Lib.hid (row_keep hb4 RS0.out);have RR4:=Lib.hid (row_keep hb4 RR3.out);have RV4:=Lib.hid (row_keep hb4 RV3.out);have Hb4:=Lib.hid (Hb3.out.trans (hb4.mono Hb3.out.size))
     have hv4:w.heap.size + 2 < w4.heap.size:=by have:=hb4.size;omega
     clear hb4 cS cV
     have cS4:=rowc RS4.out;have fS4:=rowf RS4.out;have cV4:=rowc RV4.out
     go_wp2_with fail
     refine (HB.out _).mono ?_;rintro e w5 ⟨rfl,hb5⟩
     have RS5:=Lib.hid (row_keep hb5 RS4.out);have RR5:=Lib.hid (row_keep hb5 RR4.out);have RV5:=Lib.hid (row_keep hb5 RV4.out);have Hb5:=Lib.hid (Hb4.out.trans (hb5.mono Hb4.out.size))
     have hv5:w.heap.size + 2 < w5.heap.size:=by have:=hb5.size;omega
     clear hb5 cS4 fS4 cV4
     have cS5:=rowc RS5.out;have fS5:=rowf RS5.out;have cV5:=rowc RV5.out
     go_wp2_with fail
     obtain ⟨q1,q2,q3,q4⟩:=set3_row (x:=.int .i64 y.k) (y:=.int .i64 y.n) (z:=.string y.s) 6 RS5.out (by simp)
     obtain ⟨r1,r2,r3,r4⟩:=store_cell_row (j:=2) (v:=.bool true) q1
     go_roundw
     case rel =>
      refine ⟨k + 1,by omega,by go_num,Hb5.out.trans ((q3.trans r3).mono (by omega)),by rw [r4,q4];omega,?_,?_⟩
      ·rw [r2 _ (by omega),q2 _ (by omega)];exact RR5.out
      ·rw [Hf.out.1,Hf.out.2,show (!(c.vals.take (k + 1)).isEmpty) = true by rw [Htk.out];simp];exact r1
     case measure=>simp [intOf];omega
    ·have HA:=Lib.hid (fun w1=>less_at y lo hox hlo _ t1 w1)
     have HB:=Lib.hid (fun w1=>less_at hi y hhi hox _ t2 w1)
     have Hf:Hid (loOf (c.vals.take (k + 1)) = y ∧ hiOf (c.vals.take (k + 1)) = hi):=Lib.hid ⟨by rw [Htk.out,Hlo.out];unfold pickLo;rw [t1];rfl,by rw [Htk.out,Hhi.out];unfold pickHi;rw [t2];rfl⟩
     clear hox hlo hhi t1 t2
     have RS0:Hid (w3.heap[w.heap.size + 1 + 1]? = some (.cells #[.int .i64 (n:Nat),.int .i64 ((n:Int) - (L:Nat)),.bool true,.int .i64 lo.k,.int .i64 lo.n,.string lo.s,.int .i64 hi.k,.int .i64 hi.n,.string hi.s] 43 (0,0))):=RSk
     have cS:=rowc RS0.out
     go_wp2_with fail
     refine (HA.out _).mono ?_;rintro e w4 ⟨rfl,hb4⟩
     have RS4:=Lib.hid (row_keep hb4 RS0.out);have RR4:=Lib.hid (row_keep hb4 RR3.out);have RV4:=Lib.hid (row_keep hb4 RV3.out);have Hb4:=Lib.hid (Hb3.out.trans (hb4.mono Hb3.out.size))
     have hv4:w.heap.size + 2 < w4.heap.size:=by have:=hb4.size;omega
     clear hb4 cS cV
     have cS4:=rowc RS4.out;have fS4:=rowf RS4.out;have cV4:=rowc RV4.out
     go_wp2_with fail
     refine (HB.out _).mono ?_;rintro e w5 ⟨rfl,hb5⟩
     obtain ⟨p1,p2,p3,p4⟩:=set3_row (x:=.int .i64 y.k) (y:=.int .i64 y.n) (z:=.string y.s) 3 RS4.out (by simp)
     have RS5:Hid (w5.heap[w.heap.size + 1 + 1]? = some (.cells #[.int .i64 (n:Nat),.int .i64 ((n:Int) - (L:Nat)),.bool true,.int .i64 y.k,.int .i64 y.n,.string y.s,.int .i64 hi.k,.int .i64 hi.n,.string hi.s] 43 (0,0))):=Lib.hid (row_keep hb5 p1)
     have RR5:=Lib.hid (row_keep hb5 ((p2 _ (by omega)).trans RR4.out));have RV5:=Lib.hid (row_keep hb5 ((p2 _ (by omega)).trans RV4.out))
     have Hb5:=Lib.hid ((Hb4.out.trans (p3.mono (by omega))).trans (hb5.mono (by rw [p4];exact Hb4.out.size)))
     have hv5:w.heap.size + 2 < w5.heap.size:=by have:=hb5.size;rw [p4] at this;omega
     clear p1 p2 p3 p4
     clear hb5 cS4 fS4 cV4
     have cS5:=rowc RS5.out;have fS5:=rowf RS5.out;have cV5:=rowc RV5.out
     go_wp2_with fail
     obtain ⟨r1,r2,r3,r4⟩:=store_cell_row (j:=2) (v:=.bool true) RS5.out
     go_roundw
     case rel =>
      refine ⟨k + 1,by omega,by go_num,Hb5.out.trans (r3.mono (by omega)),by rw [r4];omega,?_,?_⟩
      ·rw [r2 _ (by omega)];exact RR5.out
      ·rw [Hf.out.1,Hf.out.2,show (!(c.vals.take (k + 1)).isEmpty) = true by rw [Htk.out];simp];exact r1
     case measure=>simp [intOf];omega
    ·have HA:=Lib.hid (fun w1=>less_at y lo hox hlo _ t1 w1)
     have HB:=Lib.hid (fun w1=>less_at hi y hhi hox _ t2 w1)
     have Hf:Hid (loOf (c.vals.take (k + 1)) = y ∧ hiOf (c.vals.take (k + 1)) = y):=Lib.hid ⟨by rw [Htk.out,Hlo.out];unfold pickLo;rw [t1];rfl,by rw [Htk.out,Hhi.out];unfold pickHi;rw [t2];rfl⟩
     clear hox hlo hhi t1 t2
     have RS0:Hid (w3.heap[w.heap.size + 1 + 1]? = some (.cells #[.int .i64 (n:Nat),.int .i64 ((n:Int) - (L:Nat)),.bool true,.int .i64 lo.k,.int .i64 lo.n,.string lo.s,.int .i64 hi.k,.int .i64 hi.n,.string hi.s] 43 (0,0))):=RSk
     have cS:=rowc RS0.out
     go_wp2_with fail
     refine (HA.out _).mono ?_;rintro e w4 ⟨rfl,hb4⟩
     have RS4:=Lib.hid (row_keep hb4 RS0.out);have RR4:=Lib.hid (row_keep hb4 RR3.out);have RV4:=Lib.hid (row_keep hb4 RV3.out);have Hb4:=Lib.hid (Hb3.out.trans (hb4.mono Hb3.out.size))
     have hv4:w.heap.size + 2 < w4.heap.size:=by have:=hb4.size;omega
     clear hb4 cS cV
     have cS4:=rowc RS4.out;have fS4:=rowf RS4.out;have cV4:=rowc RV4.out
     go_wp2_with fail
     refine (HB.out _).mono ?_;rintro e w5 ⟨rfl,hb5⟩
     obtain ⟨p1,p2,p3,p4⟩:=set3_row (x:=.int .i64 y.k) (y:=.int .i64 y.n) (z:=.string y.s) 3 RS4.out (by simp)
     have RS5:Hid (w5.heap[w.heap.size + 1 + 1]? = some (.cells #[.int .i64 (n:Nat),.int .i64 ((n:Int) - (L:Nat)),.bool true,.int .i64 y.k,.int .i64 y.n,.string y.s,.int .i64 hi.k,.int .i64 hi.n,.string hi.s] 43 (0,0))):=Lib.hid (row_keep hb5 p1)
     have RR5:=Lib.hid (row_keep hb5 ((p2 _ (by omega)).trans RR4.out));have RV5:=Lib.hid (row_keep hb5 ((p2 _ (by omega)).trans RV4.out))
     have Hb5:=Lib.hid ((Hb4.out.trans (p3.mono (by omega))).trans (hb5.mono (by rw [p4];exact Hb4.out.size)))
     have hv5:w.heap.size + 2 < w5.heap.size:=by have:=hb5.size;rw [p4] at this;omega
     clear p1 p2 p3 p4
     clear hb5 cS4 fS4 cV4
     have cS5:=rowc RS5.out;have fS5:=rowf RS5.out;have cV5:=rowc RV5.out
     go_wp2_with fail
     obtain ⟨q1,q2,q3,q4⟩:=set3_row (x:=.int .i64 y.k) (y:=.int .i64 y.n) (z:=.string y.s) 6 RS5.out (by simp)
     obtain ⟨r1,r2,r3,r4⟩:=store_cell_row (j:=2) (v:=.bool true) q1
     go_roundw
     case rel =>
      refine ⟨k + 1,by omega,by go_num,Hb5.out.trans ((q3.trans r3).mono (by omega)),by rw [r4,q4];omega,?_,?_⟩
      ·rw [r2 _ (by omega),q2 _ (by omega)];exact RR5.out
      ·rw [Hf.out.1,Hf.out.2,show (!(c.vals.take (k + 1)).isEmpty) = true by rw [Htk.out];simp];exact r1
     case measure=>simp [intOf];omega
  ·obtain rfl:k = L:=by omega
   have hnl:c.vals.take k = c.vals:=List.take_of_length_le (by rw [HL.out];exact Nat.le_refl _)
   have rS:=RS.out
   rw [hnl] at rS
   have RSf:=Lib.hid rS
   clear rS hnl
   generalize hS:(⟨(n:Nat),(n:Int) - (k:Nat),!c.vals.isEmpty,loOf c.vals,hiOf c.vals⟩:St) = S at *
   have HS:=Lib.hid hS
   clear hS
   go_wp2_with (first
    | (refine wpList_load_row rfl 43 _ rfl (w.heap.size + 1 + 1) rfl 43 (stA S) (0,0) _ RSf.out Tryz.underlying43 rfl (by kernel_rfl) ?_)
    | (refine wpList_store_part rfl 43 _ _ rfl (w.heap.size + 1) 0 _ 43 (stA S) rfl rfl RR.out (by kernel_rfl) (stA_one _) (Nat.le_of_ble_eq_true rfl) (stA S) rfl ?_;intro w5 rR5 hoth hbl hsz5;have hbw5:=Lib.hid (Hbr.out.trans (hbl.mono (by omega)));have RR5:=Lib.hid rR5;clear hoth hbl hsz5 rR5))
   refine bodyPost_ret (v:=.agg (stA S)) (results_cell_row Tryz.results22 _ _ (w.heap.size + 1) 43 _ (0,0) _ rfl RR5.out Tryz.underlying43 rfl (by kernel_rfl)) rfl ⟨ret_of (by rw [HS.out]),hbw5.out⟩
end Go.Proofs.YtapiabmmfmfaeaaGreatDoor
/- The walk of stats.Of; the closed fact two. -/
namespace Go.Proofs.YtapiabmmfmfaeaaGreatDoor
set_option maxHeartbeats 20000000
set_option linter.unusedVariables false
open Go Go.RowKit Go.ChangeShapes
end Go.Proofs.YtapiabmmfmfaeaaGreatDoor
/- The closed fact two of the statements of chapter 9. -/
namespace Go.Proofs.YtapiabmmfmfaeaaGreatDoor
set_option maxHeartbeats 20000000
set_option linter.unusedVariables false
open Go Go.RowKit Go.ChangeShapes
theorem isInts_row (l:List Int) (w:World) (b:Nat) (t:TypeId) (h:w.heap[b]? = some (.cells (l.map fun x=>Value.int .i64 x).toArray t (0,0))):IsInts w (.slice (some ⟨b,0,none⟩) l.length l.length) l:=by
 refine .inr ⟨b,0,l.length,rfl,row_lt h,fun j x hj=>?_⟩
 rw [rowc h,Nat.zero_add]
 simp [hj]
theorem isVals_row (l:List Val) (w:World) (b:Nat) (t:TypeId) (h:w.heap[b]? = some (.cells (l.flatMap valCells).toArray t (0,0))):IsVals w (.slice (some ⟨b,0,none⟩) l.length l.length) l:=by
 refine .inr ⟨b,0,l.length,rfl,row_lt h,fun j x hj=>?_⟩
 obtain ⟨h1,h2,h3⟩:=flat_at l j x hj
 refine ⟨?_,?_,?_⟩
 ·rw [rowc h,Nat.zero_add];simpa using h1
 ·rw [rowc h,Nat.zero_add];simpa using h2
 ·rw [rowc h,Nat.zero_add];simpa using h3
end Go.Proofs.YtapiabmmfmfaeaaGreatDoor
