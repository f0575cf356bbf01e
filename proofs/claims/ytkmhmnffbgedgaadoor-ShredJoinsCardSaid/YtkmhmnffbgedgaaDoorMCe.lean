/- Merged texts: CErr, StR. -/
import Derived.Test.YtkmhmnffbgedgaaDoorMOw
import Derived.Test.YtkmhmnffbgedgaaDoorMRef
import Derived.Test.YtkmhmnffbgedgaaDoorMHow
import Derived.BigQuiet
import Derived.Deep.DeepCutAuto
import Derived.Deep.CutRange
import Derived.Test.YtkmhmnffbgedgaaDoorSameN
import Derived.Test.YtkmhmnffbgedgaaDoorSamV
import Derived.Test.YtkmhmnffbgedgaaDoorColC
import Derived.Test.YtkmhmnffbgedgaaDoorMRow
import Derived.Test.YtkmhmnffbgedgaaDoorMPp
import Derived.Lib.SliceRun
import Derived.Test.YtkmhmnffbgedgaaDoorRegE
import Derived.Deep.RegionHeld3
import Derived.Test.YtkmhmnffbgedgaaDoorMCol
import Derived.Test.YtkmhmnffbgedgaaDoorMEnc
import Derived.Test.YtkmhmnffbgedgaaDoorSh2
import Derived.Test.YtkmhmnffbgedgaaDoorTa0
import Derived.Test.YtkmhmnffbgedgaaDoorTv3
/- The walk of the document's ColumnError. -/
namespace Go.Proofs.YtkmhmnffbgedgaaDoor
set_option maxHeartbeats 8000000
set_option linter.unusedVariables false
open Go Go.RowKit Go.ChangeShapes
set_option maxRecDepth 100000 in
theorem cerr_right (f:Lf) (c:Col) (free:Bool) (vf vc:Value) (w:World) (hf:IsLf w vf f) (hc:IsCol w vc c) (h:rightB f = false) :
  Calls Tryd.prog 8 #[vf,vc,.bool free] w fun e w'=>e = .returned (faultV 3 (-1)) ∧ Below w.heap.size w w':=by
 obtain ⟨p,rfl,hp⟩:=hf
 obtain ⟨a,b,d,rfl,ha,hb,hd⟩:=hc
 clear hp ha hb hd
 unfold lfA colA
 go_enter Tryd.func8,Tryd.ntmps8
 go_wp2_with fail
 refine (isLeaf_no f p _ h).mono ?_;rintro e w1 ⟨rfl,hb1⟩
 obtain ⟨rA,rB,rF,hbw,hz⟩:=rows3 hb1
 have RF:=Lib.hid rF;have Hbw:=Lib.hid hbw
 clear hb1 h rA rB rF hbw
 go_wp2_with fail
 refine (bare_any _ _).mono ?_;rintro e w3 ⟨rfl,hb3⟩
 have RF3:=Lib.hid (row_keep hb3 RF.out);have Hb3:=Lib.hid (Hbw.out.trans (hb3.mono Hbw.out.size))
 clear hb3
 unfold faultV
 go_wp2_with (refine wpList_store_part rfl 28 _ _ rfl (w.heap.size + 1 + 1) 0 _ 28 #[.int .i64 3,.int .i64 (-1)] rfl rfl RF3.out (by kernel_rfl) (by simp [Value.oneCell']) (Nat.le_of_ble_eq_true rfl) #[.int .i64 3,.int .i64 (-1)] rfl ?_;intro w5 rR5 hoth hbl hsz5;have hbw5:=Lib.hid (Hb3.out.trans (hbl.mono (by omega)));have RR5:=Lib.hid rR5;clear hoth hbl hsz5 rR5)
 refine bodyPost_ret (v:=faultV 3 (-1)) (results_cell_row Tryd.results8 _ _ (w.heap.size + 1 + 1) 28 _ (0,0) _ rfl RR5.out Tryd.underlying28 rfl (by kernel_rfl)) rfl ⟨rfl,hbw5.out⟩
set_option maxRecDepth 100000 in
theorem cerr_id (f:Lf) (c:Col) (free:Bool) (vf vc:Value) (w:World) (hf:IsLf w vf f) (hc:IsCol w vc c) (h:rightB f = true) (h1:¬ f.id = c.id) :
  Calls Tryd.prog 8 #[vf,vc,.bool free] w fun e w'=>e = .returned (faultV 3 (-1)) ∧ Below w.heap.size w w':=by
 obtain ⟨p,rfl,hp⟩:=hf
 obtain ⟨a,b,d,rfl,ha,hb,hd⟩:=hc
 have h1':(f.id != c.id) = true:=by simpa using h1
 clear hp ha hb hd h1
 unfold lfA colA
 go_enter Tryd.func8,Tryd.ntmps8
 go_wp2_with fail
 refine (isLeaf_yes f p _ h).mono ?_;rintro e w1 ⟨rfl,hb1⟩
 obtain ⟨rA,rB,rF,hbw,hz⟩:=rows3 hb1
 have cA:=rowc rA;have cB:=rowc rB;have RF:=Lib.hid rF;have Hbw:=Lib.hid hbw
 clear hb1 h rA rB rF hbw
 go_wp2_with fail
 refine (bare_any _ _).mono ?_;rintro e w3 ⟨rfl,hb3⟩
 have RF3:=Lib.hid (row_keep hb3 RF.out);have Hb3:=Lib.hid (Hbw.out.trans (hb3.mono Hbw.out.size))
 clear hb3
 unfold faultV
 go_wp2_with (refine wpList_store_part rfl 28 _ _ rfl (w.heap.size + 1 + 1) 0 _ 28 #[.int .i64 3,.int .i64 (-1)] rfl rfl RF3.out (by kernel_rfl) (by simp [Value.oneCell']) (Nat.le_of_ble_eq_true rfl) #[.int .i64 3,.int .i64 (-1)] rfl ?_;intro w5 rR5 hoth hbl hsz5;have hbw5:=Lib.hid (Hb3.out.trans (hbl.mono (by omega)));have RR5:=Lib.hid rR5;clear hoth hbl hsz5 rR5)
 refine bodyPost_ret (v:=faultV 3 (-1)) (results_cell_row Tryd.results8 _ _ (w.heap.size + 1 + 1) 28 _ (0,0) _ rfl RR5.out Tryd.underlying28 rfl (by kernel_rfl)) rfl ⟨rfl,hbw5.out⟩
set_option maxRecDepth 100000 in
theorem cerr_len (f:Lf) (c:Col) (free:Bool) (vf vc:Value) (w:World) (hf:IsLf w vf f) (hc:IsCol w vc c) (h:rightB f = true) (h1:f.id = c.id) (h2:¬ c.rep.length = c.df.length) (co:c.Ok) :
  Calls Tryd.prog 8 #[vf,vc,.bool free] w fun e w'=>e = .returned (faultV 3 (-1)) ∧ Below w.heap.size w w':=by
 obtain ⟨p,rfl,hp⟩:=hf
 obtain ⟨a,b,d,rfl,ha,hb,hd⟩:=hc
 have h1':(f.id != c.id) = false:=by simpa using h1
 obtain ⟨a1,q1,rfl⟩:=ha.form
 obtain ⟨a2,q2,rfl⟩:=hb.form
 have h2':((c.rep.length:Int) != (c.df.length:Int)) = true:=by simp;omega
 have hm1:c.rep.length ≤ 9223372036854775807:=by have:=co.rep.1;unfold maxLen at this;omega
 have hm2:c.df.length ≤ 9223372036854775807:=by have:=co.df.1;unfold maxLen at this;omega
 generalize c.rep.length = n1 at *
 generalize c.df.length = n2 at *
 clear hp ha hb hd h1 h2 co
 unfold lfA colA
 go_enter Tryd.func8,Tryd.ntmps8
 go_wp2_with fail
 refine (isLeaf_yes f p _ h).mono ?_;rintro e w1 ⟨rfl,hb1⟩
 obtain ⟨rA,rB,rF,hbw,hz⟩:=rows3 hb1
 have cA:=rowc rA;have cB:=rowc rB;have RF:=Lib.hid rF;have Hbw:=Lib.hid hbw
 clear hb1 h rA rB rF hbw
 go_wp2_with fail
 refine (bare_any _ _).mono ?_;rintro e w3 ⟨rfl,hb3⟩
 have RF3:=Lib.hid (row_keep hb3 RF.out);have Hb3:=Lib.hid (Hbw.out.trans (hb3.mono Hbw.out.size))
 clear hb3
 unfold faultV
 go_wp2_with (refine wpList_store_part rfl 28 _ _ rfl (w.heap.size + 1 + 1) 0 _ 28 #[.int .i64 3,.int .i64 (-1)] rfl rfl RF3.out (by kernel_rfl) (by simp [Value.oneCell']) (Nat.le_of_ble_eq_true rfl) #[.int .i64 3,.int .i64 (-1)] rfl ?_;intro w5 rR5 hoth hbl hsz5;have hbw5:=Lib.hid (Hb3.out.trans (hbl.mono (by omega)));have RR5:=Lib.hid rR5;clear hoth hbl hsz5 rR5)
 refine bodyPost_ret (v:=faultV 3 (-1)) (results_cell_row Tryd.results8 _ _ (w.heap.size + 1 + 1) 28 _ (0,0) _ rfl RR5.out Tryd.underlying28 rfl (by kernel_rfl)) rfl ⟨rfl,hbw5.out⟩
theorem isVal_at (kind:Int) (y:Val) (hy:y.Ok) (b:Bool) (h:isV kind y = b) (w:World):Calls Tryd.prog 28 #[.int .i64 kind,.agg #[.int .i64 y.k,.int .i64 y.n,.string y.s]] w fun e w'=>e = .returned (.bool b) ∧ Below w.heap.size w w':=by
 subst h
 exact isValue_any kind y hy w
theorem isV_yes {k:Int} {x:Val} (h:OkP k x) (h1:1 ≤ k) (h5:k ≤ 5):isV k x = true:=by
 unfold isV
 rw [(okB_iff k x).2 h,decide_eq_true ⟨h1,h5⟩];rfl
theorem isV_no {k:Int} {x:Val} (h:¬ OkP k x):isV k x = false:=by
 unfold isV
 rw [(okB_false k x).2 h,Bool.and_false]
theorem below_drewN2 {w w':World} {n:Nat} (h:Below (w.drewN n).heap.size (w.drewN n) w'):Below w.heap.size w w':=by
 have h1:=below_drewN (Below.refl w.heap.size w) n
 exact h1.trans (h.mono h1.size)
set_option maxRecDepth 100000 in
theorem cerr_main (f:Lf) (c:Col) (free:Bool) (vf vc:Value) (w:World) (hf:IsLf w vf f) (hc:IsCol w vc c) (fo:f.Ok) (co:c.Ok) (hR:rightB f = true) (h1:f.id = c.id) (h2:c.rep.length = c.df.length) :
  Calls Tryd.prog 8 #[vf,vc,.bool free] w fun e w'=>e = .returned (faultV (colErr f c free).code (colErr f c free).at') ∧ Below w.heap.size w w':=by
 obtain ⟨p,rfl,hp⟩:=hf
 obtain ⟨a,b,d,rfl,ha,hb,hd⟩:=hc
 obtain ⟨n,hn1,hn2⟩:∃ n,c.rep.length = n ∧ c.df.length = n:=⟨_,rfl,h2.symm⟩
 obtain ⟨a1,q1,rfl⟩:∃ x y,a = .slice x n y:=by obtain ⟨x,y,hx⟩:=ha.form;exact ⟨x,y,by rw [hx,hn1]⟩
 obtain ⟨a2,q2,rfl⟩:∃ x y,b = .slice x n y:=by obtain ⟨x,y,hx⟩:=hb.form;exact ⟨x,y,by rw [hx,hn2]⟩
 obtain ⟨a3,q3,rfl⟩:=hd.form
 have Ha:=Lib.hid ha;have Hb:=Lib.hid hb;have Hd:=Lib.hid hd;have Hco:=Lib.hid co
 have hml:n ≤ 9223372036854775807:=by have:=co.rep.1;unfold maxLen at this;omega
 have hvl:c.vals.length ≤ 9223372036854775807:=by have:=co.vals.1;unfold maxLen at this;exact this
 have h1':(f.id != c.id) = false:=by simpa using h1
 have h2':((n:Int) != (n:Int)) = false:=by simp
 have Hn1:=Lib.hid hn1;have Hn2:=Lib.hid hn2
 have HfA:=Lib.hid (show f.mr ≤ 40 ∧ f.md ≤ 40 ∧ 0 ≤ f.mr ∧ 0 ≤ f.md from by unfold rightB at hR;rw [decide_eq_true_iff] at hR;omega)
 have Hk:Hid (1 ≤ f.kind ∧ f.kind ≤ 5):=Lib.hid (by unfold rightB at hR;rw [decide_eq_true_iff] at hR;omega)
 have Hhd:Hid (∀ fr,(fr || (c.rep.head?.getD 0 == 0)) = true → headB f c fr = true):=Lib.hid (fun fr hh=>by unfold headB;rw [hR,decide_eq_true h1,decide_eq_true h2,hh];rfl)
 have Hhn:Hid (∀ fr,(fr || (c.rep.head?.getD 0 == 0)) = false → headB f c fr = false):=Lib.hid (fun fr hh=>by unfold headB;rw [hR,decide_eq_true h1,decide_eq_true h2,hh];rfl)
 clear hp ha hb hd h1 h2 hn1 hn2 fo co
 unfold lfA colA
 go_enter Tryd.func8,Tryd.ntmps8
 go_wp2_with fail
 refine (isLeaf_yes f p _ hR).mono ?_;rintro e w1 ⟨rfl,hb1⟩
 obtain ⟨rA,rB,rF,hbw,hz⟩:=rows3 hb1
 have cA:=rowc rA;have cB:=rowc rB;have RA:=Lib.hid rA;have RB:=Lib.hid rB;have RF:=Lib.hid rF;have Hbw:=Lib.hid hbw
 clear hb1 hR rA rB rF hbw
 go_wp2_with fail
 go_loopw [7,8] (fun v i wr=>∃ (k m:Nat),k ≤ n ∧ v = .int .i64 (m:Nat) ∧ i = .int .i64 (k:Nat) ∧ CkSo f c k m true ∧ Below w1.heap.size w1 wr) (fun _ i _=>n - (intOf i).toNat)
 case atStart=>exact ⟨0,0,Nat.zero_le _,rfl,rfl,⟨Nat.zero_le _,by simp [many]⟩,Below.refl _ _⟩
 case round =>
  obtain ⟨k,m,hk,rfl,rfl,hso,hbr⟩:=hrel
  have rAr:=row_keep hbr RA.out;have rBr:=row_keep hbr RB.out;have rFr:=row_keep hbr RF.out
  have cA:=rowc rAr;have cB:=rowc rBr
  have RAr:=Lib.hid rAr;have RBr:=Lib.hid rBr;have RFr:=Lib.hid rFr
  have hmk:=hso.1
  have Hso:=Lib.hid hso;have Hbr:=Lib.hid hbr
  have Hbwr:=Lib.hid (Hbw.out.trans (hbr.mono Hbw.out.size))
  clear hso hbr rAr rBr rFr
  by_cases hlt:k < n
  ·have hl1:k < c.rep.length:=by rw [Hn1.out];exact hlt
   have hl2:k < c.df.length:=by rw [Hn2.out];exact hlt
   obtain ⟨b1,o1,rfl,-,hlt1,hc1⟩:=Ha.out.at (by omega)
   obtain ⟨b2,o2,rfl,-,hlt2,hc2⟩:=Hb.out.at (by omega)
   have cr:wr.cell? ⟨b1,o1 + k,none⟩ = _:=(Hbwr.out.cell (p:=⟨b1,o1 + k,none⟩) hlt1).trans (hc1 k _ (List.getElem?_eq_getElem hl1))
   have cd:wr.cell? ⟨b2,o2 + k,none⟩ = _:=(Hbwr.out.cell (p:=⟨b2,o2 + k,none⟩) hlt2).trans (hc2 k _ (List.getElem?_eq_getElem hl2))
   have Hr:=Lib.hid (List.getElem?_eq_getElem hl1);have Hdd:=Lib.hid (List.getElem?_eq_getElem hl2)
   have hin:(k:Int) < (n:Int):=by omega
   have hmd:=HfA.out.2.2.2
   generalize c.rep[k] = r at *
   generalize c.df[k] = d at *
   clear hc1 hc2 hl1 hl2
   have Hbad:Hid (¬ lvl f r d → colErr f c free = .sent 3):=Lib.hid (fun hn=>colErr_levels (levelsB_bad f c.rep c.df k r d Hr.out Hdd.out hn))
   by_cases hr0:0 ≤ r
   ·by_cases hr1:r ≤ f.mr
    ·by_cases hd0:0 ≤ d
     ·by_cases hd1:d ≤ f.md
      ·by_cases hdm:d = f.md
       ·have hr0':decide (0 ≤ r) = true:=by simpa using hr0
        have hr1':decide (r ≤ f.mr) = true:=by simpa using hr1
        have hd0':decide (0 ≤ d) = true:=by simpa using hd0
        have hd1':decide (d ≤ f.md) = true:=by simpa using hd1
        have hnx:=Hso.out.next Hr.out Hdd.out (m + 1) (by simp [hdm])
        rw [show decide (lvl f r d) = true from decide_eq_true ⟨hr0,hr1,hd0,hd1⟩] at hnx
        have Hnx:=Lib.hid hnx;have hdm':(d == f.md) = true:=by simpa using hdm
        clear hnx hdm
        go_wp2_with fail
        go_quiet (fail)
        go_wp2_with fail
        go_quiet (fail)
        go_wp2_with fail
        go_roundw
        case rel=>exact ⟨k + 1,_,by omega,by go_num,by go_num,Hnx.out,below_drewN Hbr.out _⟩
        case measure=>simp [intOf];omega
       ·have hr0':decide (0 ≤ r) = true:=by simpa using hr0
        have hr1':decide (r ≤ f.mr) = true:=by simpa using hr1
        have hd0':decide (0 ≤ d) = true:=by simpa using hd0
        have hd1':decide (d ≤ f.md) = true:=by simpa using hd1
        have hnx:=Hso.out.next Hr.out Hdd.out (m) (by simp [hdm])
        rw [show decide (lvl f r d) = true from decide_eq_true ⟨hr0,hr1,hd0,hd1⟩] at hnx
        have Hnx:=Lib.hid hnx;have hdm':(d == f.md) = false:=by simpa using hdm
        clear hnx hdm
        go_wp2_with fail
        go_quiet (fail)
        go_wp2_with fail
        go_quiet (fail)
        go_wp2_with fail
        go_roundw
        case rel=>exact ⟨k + 1,_,by omega,by go_num,by go_num,Hnx.out,below_drewN Hbr.out _⟩
        case measure=>simp [intOf];omega
      ·have HC:=Lib.hid (Hbad.out (fun hh=>by obtain ⟨q0,q1,q2,q3⟩:=hh;omega))
       have hr0':decide (r < 0) = false:=by simp;omega
       have hr1':decide (f.mr < r) = false:=by simp;omega
       have hd0':decide (d < 0) = false:=by simp;omega
       have hd1':decide (f.md < d) = true:=by simp;omega
       go_wp2_with fail
       go_quiet (fail)
       go_wp2_with fail
       refine (bare_any _ _).mono ?_;rintro e w3 ⟨rfl,hb3⟩
       have hb3':=below_drewN2 hb3
       have RF3:=Lib.hid (row_keep hb3' RFr.out);have Hb3:=Lib.hid (Hbwr.out.trans (hb3'.mono Hbwr.out.size))
       clear hb3 hb3'
       unfold faultV
       go_wp2_with (refine wpList_store_part rfl 28 _ _ rfl (w.heap.size + 1 + 1) 0 _ 28 #[.int .i64 3,.int .i64 (-1)] rfl rfl RF3.out (by kernel_rfl) (by simp [Value.oneCell']) (Nat.le_of_ble_eq_true rfl) #[.int .i64 3,.int .i64 (-1)] rfl ?_;intro w5 rR5 hoth hbl hsz5;have hbw5:=Lib.hid (Hb3.out.trans (hbl.mono (by omega)));have RR5:=Lib.hid rR5;clear hoth hbl hsz5 rR5)
       refine bodyPost_ret (v:=faultV 3 (-1)) (results_cell_row Tryd.results8 _ _ (w.heap.size + 1 + 1) 28 _ (0,0) _ rfl RR5.out Tryd.underlying28 rfl (by kernel_rfl)) rfl ⟨by rw [HC.out];rfl,hbw5.out⟩
     ·have HC:=Lib.hid (Hbad.out (fun hh=>by obtain ⟨q0,q1,q2,q3⟩:=hh;omega))
      have hr0':decide (r < 0) = false:=by simp;omega
      have hr1':decide (f.mr < r) = false:=by simp;omega
      have hd0':decide (d < 0) = true:=by simp;omega
      go_wp2_with fail
      go_quiet (fail)
      go_wp2_with fail
      refine (bare_any _ _).mono ?_;rintro e w3 ⟨rfl,hb3⟩
      have hb3':=below_drewN2 hb3
      have RF3:=Lib.hid (row_keep hb3' RFr.out);have Hb3:=Lib.hid (Hbwr.out.trans (hb3'.mono Hbwr.out.size))
      clear hb3 hb3'
      unfold faultV
      go_wp2_with (refine wpList_store_part rfl 28 _ _ rfl (w.heap.size + 1 + 1) 0 _ 28 #[.int .i64 3,.int .i64 (-1)] rfl rfl RF3.out (by kernel_rfl) (by simp [Value.oneCell']) (Nat.le_of_ble_eq_true rfl) #[.int .i64 3,.int .i64 (-1)] rfl ?_;intro w5 rR5 hoth hbl hsz5;have hbw5:=Lib.hid (Hb3.out.trans (hbl.mono (by omega)));have RR5:=Lib.hid rR5;clear hoth hbl hsz5 rR5)
      refine bodyPost_ret (v:=faultV 3 (-1)) (results_cell_row Tryd.results8 _ _ (w.heap.size + 1 + 1) 28 _ (0,0) _ rfl RR5.out Tryd.underlying28 rfl (by kernel_rfl)) rfl ⟨by rw [HC.out];rfl,hbw5.out⟩
    ·have HC:=Lib.hid (Hbad.out (fun hh=>by obtain ⟨q0,q1,q2,q3⟩:=hh;omega))
     have hr0':decide (r < 0) = false:=by simp;omega
     have hr1':decide (f.mr < r) = true:=by simp;omega
     go_wp2_with fail
     go_quiet (fail)
     go_wp2_with fail
     refine (bare_any _ _).mono ?_;rintro e w3 ⟨rfl,hb3⟩
     have hb3':=below_drewN2 hb3
     have RF3:=Lib.hid (row_keep hb3' RFr.out);have Hb3:=Lib.hid (Hbwr.out.trans (hb3'.mono Hbwr.out.size))
     clear hb3 hb3'
     unfold faultV
     go_wp2_with (refine wpList_store_part rfl 28 _ _ rfl (w.heap.size + 1 + 1) 0 _ 28 #[.int .i64 3,.int .i64 (-1)] rfl rfl RF3.out (by kernel_rfl) (by simp [Value.oneCell']) (Nat.le_of_ble_eq_true rfl) #[.int .i64 3,.int .i64 (-1)] rfl ?_;intro w5 rR5 hoth hbl hsz5;have hbw5:=Lib.hid (Hb3.out.trans (hbl.mono (by omega)));have RR5:=Lib.hid rR5;clear hoth hbl hsz5 rR5)
     refine bodyPost_ret (v:=faultV 3 (-1)) (results_cell_row Tryd.results8 _ _ (w.heap.size + 1 + 1) 28 _ (0,0) _ rfl RR5.out Tryd.underlying28 rfl (by kernel_rfl)) rfl ⟨by rw [HC.out];rfl,hbw5.out⟩
   ·have HC:=Lib.hid (Hbad.out (fun hh=>by obtain ⟨q0,q1,q2,q3⟩:=hh;omega))
    have hr0':decide (r < 0) = true:=by simp;omega
    go_wp2_with fail
    go_quiet (fail)
    go_wp2_with fail
    refine (bare_any _ _).mono ?_;rintro e w3 ⟨rfl,hb3⟩
    have hb3':=below_drewN2 hb3
    have RF3:=Lib.hid (row_keep hb3' RFr.out);have Hb3:=Lib.hid (Hbwr.out.trans (hb3'.mono Hbwr.out.size))
    clear hb3 hb3'
    unfold faultV
    go_wp2_with (refine wpList_store_part rfl 28 _ _ rfl (w.heap.size + 1 + 1) 0 _ 28 #[.int .i64 3,.int .i64 (-1)] rfl rfl RF3.out (by kernel_rfl) (by simp [Value.oneCell']) (Nat.le_of_ble_eq_true rfl) #[.int .i64 3,.int .i64 (-1)] rfl ?_;intro w5 rR5 hoth hbl hsz5;have hbw5:=Lib.hid (Hb3.out.trans (hbl.mono (by omega)));have RR5:=Lib.hid rR5;clear hoth hbl hsz5 rR5)
    refine bodyPost_ret (v:=faultV 3 (-1)) (results_cell_row Tryd.results8 _ _ (w.heap.size + 1 + 1) 28 _ (0,0) _ rfl RR5.out Tryd.underlying28 rfl (by kernel_rfl)) rfl ⟨by rw [HC.out];rfl,hbw5.out⟩
  ·obtain rfl:k = n:=by omega
   clear cA cB
   have cA:=rowc RAr.out;have cB:=rowc RBr.out
   have hso2:=Hso.out.2
   simp only [if_true] at hso2
   obtain ⟨hl1,hm1⟩:=hso2
   have hlev:levelsB f c.rep c.df = true:=levelsB_all f c.rep c.df fun j r d hr hd=>hl1 j r d (by have:=(List.getElem?_eq_some_iff.1 hr).1;rw [Hn1.out] at this;exact this) hr hd
   rw [List.take_of_length_le (by rw [Hn2.out];exact Nat.le_refl _)] at hm1
   have Hm1:=Lib.hid hm1;have Hlev:=Lib.hid hlev
   clear hl1 hm1 hlev
   by_cases hmv:m = c.vals.length
   ·subst hmv
    by_cases hfr:(free || (c.rep.head?.getD 0 == 0)) = true
    ·have hce:=colErr_vals (Hhd.out free hfr) Hlev.out Hm1.out.symm
     have Hce:=Lib.hid hce;have Hfr:=Lib.hid hfr
     clear hce hfr
     go_upto_region 11 with fail
     go_cut [104] (fun s104 wx=>s104 = .bool false ∧ Below wr.heap.size wr wx)
     case first =>
      by_cases hn0:k = 0
      ·subst hn0
       go_wp2_with fail
       go_meet
       exact ⟨rfl,Below.refl _ _⟩
      ·have hl0:0 < c.rep.length:=by rw [Hn1.out];omega
       obtain ⟨b1,o1,rfl,-,hlt1,hc1⟩:=Ha.out.at hl0
       have hl':(0:Int) < (k:Int):=by omega
       have hl'':0 < k:=by omega
       obtain ⟨r0,hr0⟩:∃ r0,c.rep[0]? = some r0:=⟨_,List.getElem?_eq_getElem hl0⟩
       have cr:wr.cell? ⟨b1,o1,none⟩ = some (.int .i64 r0):=(Hbwr.out.cell (p:=⟨b1,o1,none⟩) hlt1).trans (by simpa using hc1 0 r0 hr0)
       have hfr:=Hfr.out
       rw [List.head?_eq_getElem?,hr0] at hfr
       clear hc1 hl0 hn0 hr0
       by_cases hz0:r0 = 0
       ·subst hz0
        clear hfr
        go_wp2_with fail
        go_meet
        exact ⟨rfl,Below.refl _ _⟩
       ·have hz1:(r0 != 0) = true:=by simpa using hz0
        have hfree:free = true:=by simpa [hz0] using hfr
        subst hfree
        clear hfr hz0
        go_wp2_with fail
        go_meet
        exact ⟨rfl,Below.refl _ _⟩
     case rest =>
      obtain ⟨rfl,hbx⟩:=hcut
      replace RAr:=Lib.hid (row_keep hbx RAr.out);replace RBr:=Lib.hid (row_keep hbx RBr.out);replace RFr:=Lib.hid (row_keep hbx RFr.out);replace Hbwr:=Lib.hid (Hbwr.out.trans (hbx.mono Hbwr.out.size))
      clear hbx cA cB
      have cA:=rowc RAr.out;have cB:=rowc RBr.out
      obtain ⟨wo,rfl⟩:∃ wo:World,wo = wc:=⟨_,rfl⟩
      cases hbad:badAt f.kind c.vals 0 with
      | none =>
       have HP:=Lib.hid ((badAt_none f.kind c.vals 0).1 hbad)
       have HC:Hid (colErr f c free = .nil):=Lib.hid (by rw [Hce.out,hbad])
       clear hbad
       go_wp2_with fail
       go_loopw [9] (fun q wr=>∃ j:Nat,j ≤ c.vals.length ∧ q = .int .i64 (j:Nat) ∧ Below wo.heap.size wo wr) (fun q _=>c.vals.length - (intOf q).toNat)
       case atStart=>exact ⟨0,Nat.zero_le _,rfl,Below.refl _ _⟩
       case round =>
        obtain ⟨j,hj,rfl,hb2⟩:=hrel
        by_cases hjl:j < c.vals.length
        ·obtain ⟨b0,off,rfl,-,hlt0,hcv⟩:=((Hd.out.below Hbwr.out (Nat.le_refl _)).below hb2 (Nat.le_refl _)).at (by omega)
         have hin:(j:Int) < (c.vals.length:Int):=by omega
         have hcx:=hcv j c.vals[j] (List.getElem?_eq_getElem hjl)
         have hox:=Hco.out.vals.2 c.vals[j] (List.getElem_mem hjl)
         have hpx:=HP.out c.vals[j] (List.getElem_mem hjl)
         generalize c.vals[j] = y at *
         have hOK:=Lib.hid (fun w5=>isVal_at f.kind y hox true (isV_yes hpx Hk.out.1 Hk.out.2) w5)
         clear hcv hox hpx
         obtain ⟨hx0,hx1,hx2⟩:=hcx
         replace cA:=rowc (row_keep hb2 RAr.out);replace cB:=rowc (row_keep hb2 RBr.out)
         have RA2:=Lib.hid (row_keep hb2 RAr.out);have RB2:=Lib.hid (row_keep hb2 RBr.out);have HX:=Lib.hid (And.intro hx0 (And.intro hx1 hx2))
         have HB:=Lib.hid hb2
         clear hb2
         go_upto_region 16 with fail
         go_region_held3 (fun w'=>(∀ j,w'.cell? ⟨w.heap.size,j,none⟩ = (#[.int .i64 f.id,.int .i64 f.kind,.int .i64 f.mr,.int .i64 f.md,p]:Array Value)[j]?) ∧ (∀ j,w'.cell? ⟨w.heap.size + 1,j,none⟩ = (#[.int .i64 c.id,.slice a1 k q1,.slice a2 k q2,.slice (some ⟨b0,off,none⟩) c.vals.length q3]:Array Value)[j]?) ∧ w'.cell? ⟨b0,off + j * 3,none⟩ = some (.int .i64 y.k) ∧ w'.cell? ⟨b0,off + j * 3 + 1,none⟩ = some (.int .i64 y.n) ∧ w'.cell? ⟨b0,off + j * 3 + 2,none⟩ = some (.string y.s))
          (first | (with_reducible exact ⟨rowc RA2.out,rowc RB2.out,HX.out.1,HX.out.2.1,HX.out.2.2⟩) | exact ⟨rowc_drew RA2.out,rowc_drew RB2.out,HX.out.1,HX.out.2.1,HX.out.2.2⟩)
          (first
          | (go_at_call 28;(with_reducible refine (hOK.out _).mono ?_);rintro e w9 ⟨rfl,hb9⟩;(first | (with_reducible have hbs:=drew_first hb9) | (have hbs:=hb9));replace HX:=Lib.hid (And.intro ((hbs.cell (p:=⟨b0,off + j * 3,none⟩) hlt0).trans HX.out.1) (And.intro ((hbs.cell (p:=⟨b0,off + j * 3 + 1,none⟩) hlt0).trans HX.out.2.1) ((hbs.cell (p:=⟨b0,off + j * 3 + 2,none⟩) hlt0).trans HX.out.2.2)));replace RA2:=Lib.hid (row_keep hbs RA2.out);replace RB2:=Lib.hid (row_keep hbs RB2.out);replace HB:=Lib.hid (HB.out.trans (hbs.mono HB.out.size));clear hb9 hbs))
         go_wp2_with fail
         go_roundw
         case rel=>exact ⟨j + 1,by omega,by go_num,HB.out⟩
         case measure=>simp [intOf];omega
        ·clear cA cB
         have cA:=rowc (row_keep hb2 RAr.out);have cB:=rowc (row_keep hb2 RBr.out)
         have RF2:=Lib.hid (row_keep hb2 RFr.out);have Hb2:=Lib.hid (Hbwr.out.trans (hb2.mono Hbwr.out.size))
         clear hb2
         go_wp2_with fail
         refine (fine_any _).mono ?_;rintro e w3 ⟨rfl,hb3⟩
         have RF3:=Lib.hid (row_keep hb3 RF2.out);have Hb3:=Lib.hid (Hb2.out.trans (hb3.mono Hb2.out.size))
         clear hb3
         unfold faultV
         go_wp2_with (refine wpList_store_part rfl 28 _ _ rfl (w.heap.size + 1 + 1) 0 _ 28 #[.int .i64 0,.int .i64 (-1)] rfl rfl RF3.out (by kernel_rfl) (by simp [Value.oneCell']) (Nat.le_of_ble_eq_true rfl) #[.int .i64 0,.int .i64 (-1)] rfl ?_;intro w5 rR5 hoth hbl hsz5;have hbw5:=Lib.hid (Hb3.out.trans (hbl.mono (by omega)));have RR5:=Lib.hid rR5;clear hoth hbl hsz5 rR5)
         refine bodyPost_ret (v:=faultV 0 (-1)) (results_cell_row Tryd.results8 _ _ (w.heap.size + 1 + 1) 28 _ (0,0) _ rfl RR5.out Tryd.underlying28 rfl (by kernel_rfl)) rfl ⟨by rw [HC.out];rfl,hbw5.out⟩
      | some i =>
       obtain ⟨q,y,hj,hx,hn,hPP⟩:=badAt_some f.kind c.vals 0 i hbad
       obtain rfl:i = q:=by omega
       have HP:=Lib.hid hPP;have HY:=Lib.hid (And.intro hx hn)
       have hil:i < c.vals.length:=(List.getElem?_eq_some_iff.1 hx).1
       have HC:Hid (colErr f c free = .fault 4 (i:Nat)):=Lib.hid (by rw [Hce.out,hbad])
       clear hbad hj hx hn hPP
       go_wp2_with fail
       go_loopw [9] (fun q wr=>∃ j:Nat,j ≤ i ∧ q = .int .i64 (j:Nat) ∧ Below wo.heap.size wo wr) (fun q _=>c.vals.length - (intOf q).toNat)
       case atStart=>exact ⟨0,Nat.zero_le _,rfl,Below.refl _ _⟩
       case round =>
        obtain ⟨j,hj,rfl,hb2⟩:=hrel
        have hjl:j < c.vals.length:=by omega
        obtain ⟨b0,off,rfl,-,hlt0,hcv⟩:=((Hd.out.below Hbwr.out (Nat.le_refl _)).below hb2 (Nat.le_refl _)).at (by omega)
        have hin:(j:Int) < (c.vals.length:Int):=by omega
        by_cases hji:j < i
        ·have hcx:=hcv j c.vals[j] (List.getElem?_eq_getElem hjl)
         have hox:=Hco.out.vals.2 c.vals[j] (List.getElem_mem hjl)
         have hpx:=HP.out j c.vals[j] hji (List.getElem?_eq_getElem hjl)
         generalize c.vals[j] = y at *
         have hOK:=Lib.hid (fun w5=>isVal_at f.kind y hox true (isV_yes hpx Hk.out.1 Hk.out.2) w5)
         clear hcv hox hpx
         obtain ⟨hx0,hx1,hx2⟩:=hcx
         replace cA:=rowc (row_keep hb2 RAr.out);replace cB:=rowc (row_keep hb2 RBr.out)
         have RA2:=Lib.hid (row_keep hb2 RAr.out);have RB2:=Lib.hid (row_keep hb2 RBr.out);have HX:=Lib.hid (And.intro hx0 (And.intro hx1 hx2))
         have HB:=Lib.hid hb2
         clear hb2
         go_upto_region 16 with fail
         go_region_held3 (fun w'=>(∀ j,w'.cell? ⟨w.heap.size,j,none⟩ = (#[.int .i64 f.id,.int .i64 f.kind,.int .i64 f.mr,.int .i64 f.md,p]:Array Value)[j]?) ∧ (∀ j,w'.cell? ⟨w.heap.size + 1,j,none⟩ = (#[.int .i64 c.id,.slice a1 k q1,.slice a2 k q2,.slice (some ⟨b0,off,none⟩) c.vals.length q3]:Array Value)[j]?) ∧ w'.cell? ⟨b0,off + j * 3,none⟩ = some (.int .i64 y.k) ∧ w'.cell? ⟨b0,off + j * 3 + 1,none⟩ = some (.int .i64 y.n) ∧ w'.cell? ⟨b0,off + j * 3 + 2,none⟩ = some (.string y.s))
          (first | (with_reducible exact ⟨rowc RA2.out,rowc RB2.out,HX.out.1,HX.out.2.1,HX.out.2.2⟩) | exact ⟨rowc_drew RA2.out,rowc_drew RB2.out,HX.out.1,HX.out.2.1,HX.out.2.2⟩)
          (first
          | (go_at_call 28;(with_reducible refine (hOK.out _).mono ?_);rintro e w9 ⟨rfl,hb9⟩;(first | (with_reducible have hbs:=drew_first hb9) | (have hbs:=hb9));replace HX:=Lib.hid (And.intro ((hbs.cell (p:=⟨b0,off + j * 3,none⟩) hlt0).trans HX.out.1) (And.intro ((hbs.cell (p:=⟨b0,off + j * 3 + 1,none⟩) hlt0).trans HX.out.2.1) ((hbs.cell (p:=⟨b0,off + j * 3 + 2,none⟩) hlt0).trans HX.out.2.2)));replace RA2:=Lib.hid (row_keep hbs RA2.out);replace RB2:=Lib.hid (row_keep hbs RB2.out);replace HB:=Lib.hid (HB.out.trans (hbs.mono HB.out.size));clear hb9 hbs))
         go_wp2_with fail
         go_roundw
         case rel=>exact ⟨j + 1,by omega,by go_num,HB.out⟩
         case measure=>simp [intOf];omega
        ·obtain rfl:j = i:=by omega
         have hcx:=hcv j y HY.out.1
         have hox:=Hco.out.vals.2 y (List.mem_of_getElem? HY.out.1)
         have hOK:=Lib.hid (fun w5=>isVal_at f.kind y hox false (isV_no HY.out.2) w5)
         clear hcv hox
         obtain ⟨hx0,hx1,hx2⟩:=hcx
         replace cA:=rowc (row_keep hb2 RAr.out);replace cB:=rowc (row_keep hb2 RBr.out)
         have RA2:=Lib.hid (row_keep hb2 RAr.out);have RB2:=Lib.hid (row_keep hb2 RBr.out);have HX:=Lib.hid (And.intro hx0 (And.intro hx1 hx2))
         have HB:=Lib.hid hb2
         clear hb2
         go_upto_region 16 with fail
         go_region_held3 (fun w'=>(∀ j,w'.cell? ⟨w.heap.size,j,none⟩ = (#[.int .i64 f.id,.int .i64 f.kind,.int .i64 f.mr,.int .i64 f.md,p]:Array Value)[j]?) ∧ (∀ j,w'.cell? ⟨w.heap.size + 1,j,none⟩ = (#[.int .i64 c.id,.slice a1 k q1,.slice a2 k q2,.slice (some ⟨b0,off,none⟩) c.vals.length q3]:Array Value)[j]?) ∧ w'.cell? ⟨b0,off + j * 3,none⟩ = some (.int .i64 y.k) ∧ w'.cell? ⟨b0,off + j * 3 + 1,none⟩ = some (.int .i64 y.n) ∧ w'.cell? ⟨b0,off + j * 3 + 2,none⟩ = some (.string y.s))
          (first | (with_reducible exact ⟨rowc RA2.out,rowc RB2.out,HX.out.1,HX.out.2.1,HX.out.2.2⟩) | exact ⟨rowc_drew RA2.out,rowc_drew RB2.out,HX.out.1,HX.out.2.1,HX.out.2.2⟩)
          (first
          | (go_at_call 28;(with_reducible refine (hOK.out _).mono ?_);rintro e w9 ⟨rfl,hb9⟩;(first | (with_reducible have hbs:=drew_first hb9) | (have hbs:=hb9));replace HX:=Lib.hid (And.intro ((hbs.cell (p:=⟨b0,off + j * 3,none⟩) hlt0).trans HX.out.1) (And.intro ((hbs.cell (p:=⟨b0,off + j * 3 + 1,none⟩) hlt0).trans HX.out.2.1) ((hbs.cell (p:=⟨b0,off + j * 3 + 2,none⟩) hlt0).trans HX.out.2.2)));replace RA2:=Lib.hid (row_keep hbs RA2.out);replace RB2:=Lib.hid (row_keep hbs RB2.out);replace HB:=Lib.hid (HB.out.trans (hbs.mono HB.out.size));clear hb9 hbs))
         have RF2:=Lib.hid (row_keep HB.out RFr.out);have Hb2:=Lib.hid (Hbwr.out.trans (HB.out.mono Hbwr.out.size))
         go_wp2_with (refine wpList_store_part rfl 28 _ _ rfl (w.heap.size + 1 + 1) 0 _ 28 #[.int .i64 4,.int .i64 (j:Nat)] rfl rfl RF2.out (by kernel_rfl) (by simp [Value.oneCell']) (Nat.le_of_ble_eq_true rfl) #[.int .i64 4,.int .i64 (j:Nat)] rfl ?_;intro w5 rR5 hoth hbl hsz5;have hbw5:=Lib.hid (Hb2.out.trans (hbl.mono (by omega)));have RR5:=Lib.hid rR5;clear hoth hbl hsz5 rR5)
         refine bodyPost_ret (v:=faultV 4 (j:Nat)) (results_cell_row Tryd.results8 _ _ (w.heap.size + 1 + 1) 28 _ (0,0) _ rfl RR5.out Tryd.underlying28 rfl (by kernel_rfl)) rfl ⟨by rw [HC.out];rfl,hbw5.out⟩
    ·have hfr':(free || (c.rep.head?.getD 0 == 0)) = false:=by simpa using hfr
     have HC:=Lib.hid (colErr_head (c:=c) (Hhn.out free hfr'))
     rw [Bool.or_eq_false_iff] at hfr'
     obtain ⟨rfl,h6⟩:=hfr'
     cases hrr:c.rep with
     | nil=>rw [hrr] at h6;simp at h6
     | cons r0 rl =>
      have hl0:0 < c.rep.length:=by rw [hrr];simp
      obtain ⟨b1,o1,rfl,-,hlt1,hc1⟩:=Ha.out.at hl0
      have cr:wr.cell? ⟨b1,o1,none⟩ = some (.int .i64 r0):=(Hbwr.out.cell (p:=⟨b1,o1,none⟩) hlt1).trans (by simpa using hc1 0 r0 (by rw [hrr];rfl))
      have hr0:(r0 != 0) = true:=by rw [hrr] at h6;simpa using h6
      have hl':(0:Int) < (k:Int):=by rw [Hn1.out] at hl0;omega
      have hl'':0 < k:=by omega
      clear hc1 hl0 h6 hfr hrr
      go_wp2_with fail
      refine (bare_any _ _).mono ?_;rintro e w3 ⟨rfl,hb3⟩
      have RF3:=Lib.hid (row_keep hb3 RFr.out);have Hb3:=Lib.hid (Hbwr.out.trans (hb3.mono Hbwr.out.size))
      clear hb3
      unfold faultV
      go_wp2_with (refine wpList_store_part rfl 28 _ _ rfl (w.heap.size + 1 + 1) 0 _ 28 #[.int .i64 3,.int .i64 (-1)] rfl rfl RF3.out (by kernel_rfl) (by simp [Value.oneCell']) (Nat.le_of_ble_eq_true rfl) #[.int .i64 3,.int .i64 (-1)] rfl ?_;intro w5 rR5 hoth hbl hsz5;have hbw5:=Lib.hid (Hb3.out.trans (hbl.mono (by omega)));have RR5:=Lib.hid rR5;clear hoth hbl hsz5 rR5)
      refine bodyPost_ret (v:=faultV 3 (-1)) (results_cell_row Tryd.results8 _ _ (w.heap.size + 1 + 1) 28 _ (0,0) _ rfl RR5.out Tryd.underlying28 rfl (by kernel_rfl)) rfl ⟨by rw [HC.out];rfl,hbw5.out⟩
   ·have hmv':((m:Int) != (c.vals.length:Int)) = true:=by simp;omega
    have HC:=Lib.hid (colErr_many (f:=f) (c:=c) (free:=free) (fun hh=>hmv (Hm1.out.trans hh)))
    clear hmv
    go_wp2_with fail
    refine (bare_any _ _).mono ?_;rintro e w3 ⟨rfl,hb3⟩
    have RF3:=Lib.hid (row_keep hb3 RFr.out);have Hb3:=Lib.hid (Hbwr.out.trans (hb3.mono Hbwr.out.size))
    clear hb3
    unfold faultV
    go_wp2_with (refine wpList_store_part rfl 28 _ _ rfl (w.heap.size + 1 + 1) 0 _ 28 #[.int .i64 3,.int .i64 (-1)] rfl rfl RF3.out (by kernel_rfl) (by simp [Value.oneCell']) (Nat.le_of_ble_eq_true rfl) #[.int .i64 3,.int .i64 (-1)] rfl ?_;intro w5 rR5 hoth hbl hsz5;have hbw5:=Lib.hid (Hb3.out.trans (hbl.mono (by omega)));have RR5:=Lib.hid rR5;clear hoth hbl hsz5 rR5)
    refine bodyPost_ret (v:=faultV 3 (-1)) (results_cell_row Tryd.results8 _ _ (w.heap.size + 1 + 1) 28 _ (0,0) _ rfl RR5.out Tryd.underlying28 rfl (by kernel_rfl)) rfl ⟨by rw [HC.out];rfl,hbw5.out⟩
theorem cerr_any (f:Lf) (c:Col) (free:Bool) (vf vc:Value) (w:World) (hf:IsLf w vf f) (hc:IsCol w vc c) (fo:f.Ok) (co:c.Ok) :
  Calls Tryd.prog 8 #[vf,vc,.bool free] w fun e w'=>e = .returned (faultV (colErr f c free).code (colErr f c free).at') ∧ Below w.heap.size w w':=by
 by_cases hR:rightB f = true
 ·by_cases h1:f.id = c.id
  ·by_cases h2:c.rep.length = c.df.length
   ·exact cerr_main f c free vf vc w hf hc fo co hR h1 h2
   ·rw [colErr_head (show headB f c free = false by unfold headB;simp [h2])]
    exact cerr_len f c free vf vc w hf hc hR h1 h2 co
  ·rw [colErr_head (show headB f c free = false by unfold headB;simp [h1])]
   exact cerr_id f c free vf vc w hf hc hR h1
 ·rw [colErr_head (show headB f c free = false by unfold headB;simp [hR])]
  exact cerr_right f c free vf vc w hf hc (by simpa using hR)
end Go.Proofs.YtkmhmnffbgedgaaDoor
/- The walk of the document's StatsOf. -/
namespace Go.Proofs.YtkmhmnffbgedgaaDoor
set_option maxHeartbeats 8000000
set_option linter.unusedVariables false
open Go Go.RowKit Go.ChangeShapes
end Go.Proofs.YtkmhmnffbgedgaaDoor
/- The walk of the document's SameColumn at two columns that are the same (without the packages of bits). -/
namespace Go.Proofs.YtkmhmnffbgedgaaDoor
set_option maxHeartbeats 4000000
set_option linter.unusedVariables false
open Go Go.RowKit Go.ChangeShapes
set_option maxRecDepth 100000 in
theorem sameColN (c:Col) (v u:Value) (w:World) (hv:IsCol w v c) (hu:IsCol w u c) (h1:c.rep.length ≤ 1000000) (h2:c.df.length ≤ 1000000) (h3:c.vals.length ≤ maxLen) :
  Calls Tryd.prog 13 #[v,u] w fun e w'=>e = .returned (.bool true) ∧ Below w.heap.size w w':=by
 obtain ⟨a,b,d,rfl,ha,hb,hd⟩:=hv
 obtain ⟨a',b',d',rfl,ha',hb',hd'⟩:=hu
 have H1:=Lib.hid (fun (w1:World) (h:Below w.heap.size w w1)=>sameInts_same a a' c.rep w1 (ha.below h (Nat.le_refl _)) (ha'.below h (Nat.le_refl _)) h1)
 have H2:=Lib.hid (fun (w1:World) (h:Below w.heap.size w w1)=>sameInts_same b b' c.df w1 (hb.below h (Nat.le_refl _)) (hb'.below h (Nat.le_refl _)) h2)
 have H3:=Lib.hid (fun (w1:World) (h:Below w.heap.size w w1)=>sameValues_any d d' c.vals c.vals w1 (hd.below h (Nat.le_refl _)) (hd'.below h (Nat.le_refl _)) h3 h3)
 have hs:sameB c.vals c.vals = true:=(sameB_iff _ _).2 rfl
 rw [hs] at H3
 clear ha hb hd ha' hb' hd' h1 h2 h3 hs
 unfold colA
 go_enter Tryd.func13,Tryd.ntmps13
 go_upto_region 1 with fail
 obtain ⟨rA,rB,hbw,hz⟩:=rows2 (w:=w) (A:=.cells #[.int .i64 c.id,a,b,d] 32) (B:=.cells #[.int .i64 c.id,a',b',d'] 32) (Below.refl _ _)
 have RA:=Lib.hid rA;have RB:=Lib.hid rB;have Hbw:=Lib.hid hbw
 clear rA rB hbw hz
 generalize ((w.alloc (.cells #[.int .i64 c.id,a,b,d] 32)).alloc (.cells #[.int .i64 c.id,a',b',d'] 32)) = w0 at *
 have cA:=rowc RA.out;have fA:=rowf RA.out;have cB:=rowc RB.out;have fB:=rowf RB.out
 go_wp2_with fail
 refine (H1.out _ Hbw.out).mono ?_;rintro e w1 ⟨rfl,hb1⟩
 clear cA fA cB fB
 replace RA:=Lib.hid (row_keep hb1 RA.out);replace RB:=Lib.hid (row_keep hb1 RB.out);replace Hbw:=Lib.hid (Hbw.out.trans (hb1.mono Hbw.out.size))
 clear hb1
 have cA:=rowc RA.out;have fA:=rowf RA.out;have cB:=rowc RB.out;have fB:=rowf RB.out
 go_wp2_with fail
 refine (H2.out _ Hbw.out).mono ?_;rintro e w2 ⟨rfl,hb1⟩
 clear cA fA cB fB
 replace RA:=Lib.hid (row_keep hb1 RA.out);replace RB:=Lib.hid (row_keep hb1 RB.out);replace Hbw:=Lib.hid (Hbw.out.trans (hb1.mono Hbw.out.size))
 clear hb1
 have cA:=rowc RA.out;have fA:=rowf RA.out;have cB:=rowc RB.out;have fB:=rowf RB.out
 go_wp2_with fail
 refine (H3.out _ Hbw.out).mono ?_;rintro e w3 ⟨rfl,hb1⟩
 replace Hbw:=Lib.hid (Hbw.out.trans (hb1.mono Hbw.out.size))
 clear hb1
 go_wp2_with fail
 go_ret
 exact ⟨rfl,Hbw.out⟩
end Go.Proofs.YtkmhmnffbgedgaaDoor
/- Chunks: plain Lean: where records begin. -/
namespace Go.Proofs.YtkmhmnffbgedgaaDoor
set_option linter.unusedVariables false
open Go Go.RowKit Go.ChangeShapes
end Go.Proofs.YtkmhmnffbgedgaaDoor
/- Chunks: plain Lean: where records begin, entries cut out, pages of whole records. -/
namespace Go.Proofs.YtkmhmnffbgedgaaDoor
set_option linter.unusedVariables false
open Go Go.RowKit Go.ChangeShapes
end Go.Proofs.YtkmhmnffbgedgaaDoor
/- The walk of slices.Clone at a slice of numbers; parts of slices. -/
namespace Go.Proofs.YtkmhmnffbgedgaaDoor
set_option linter.unusedVariables false
open Go Go.RowKit Go.ChangeShapes
end Go.Proofs.YtkmhmnffbgedgaaDoor
/- The walk of shred.Cut. -/
namespace Go.Proofs.YtkmhmnffbgedgaaDoor
set_option linter.unusedVariables false
set_option linter.unusedSimpArgs false
open Go Go.RowKit Go.ChangeShapes
end Go.Proofs.YtkmhmnffbgedgaaDoor
/- The walks of shred.Begins and of the document's CountOf. -/
namespace Go.Proofs.YtkmhmnffbgedgaaDoor
set_option linter.unusedVariables false
open Go Go.RowKit Go.ChangeShapes
end Go.Proofs.YtkmhmnffbgedgaaDoor
/- The walks of the laws' slim, of shred.Count and shred.Part. Written by gen_sp1.py. -/
namespace Go.Proofs.YtkmhmnffbgedgaaDoor
set_option maxHeartbeats 4000000
set_option linter.unusedVariables false
set_option linter.unusedSimpArgs false
open Go Go.RowKit Go.ChangeShapes
def slimB (c:Col):Bool:=decide (c.rep.length ≤ 400) && (decide (c.df.length ≤ 400) && decide (c.vals.length ≤ 400))
set_option maxRecDepth 100000 in
theorem slim2_any (c:Col) (vc:Value) (w:World) (hc:IsCol w vc c):Calls Tryd.prog 7 #[vc] w fun e w'=>e = .returned (.bool (slimB c)) ∧ Below w.heap.size w w':=by
 obtain ⟨a,b,d,rfl,ha,hb,hd⟩:=hc
 obtain ⟨a1,q1,rfl⟩:=ha.form
 obtain ⟨a2,q2,rfl⟩:=hb.form
 obtain ⟨a3,q3,rfl⟩:=hd.form
 clear ha hb hd
 have key:∀ n:Nat,n ≤ 400 ∨ ¬ n ≤ 400:=fun n=>Nat.lt_or_ge 400 n |>.elim (fun h=>.inr (by omega)) .inl
 unfold slimB colA
 generalize c.rep.length = n1 at *
 generalize c.df.length = n2 at *
 generalize c.vals.length = n3 at *
 by_cases h1:n1 ≤ 400
 ·by_cases h2:n2 ≤ 400
  ·by_cases h3:n3 ≤ 400
   ·have d1:(n1:Int) ≤ 400:=by omega
    have d2:(n2:Int) ≤ 400:=by omega
    have d3:(n3:Int) ≤ 400:=by omega
    rw [decide_eq_true h1,decide_eq_true h2,decide_eq_true h3]
    clear key
    go_enter Tryd.func7,Tryd.ntmps7
    go_wp2_with fail
    go_ret
    exact ⟨rfl,(Below.refl _ _).alloc (Nat.le_refl _) _⟩
   ·have d1:(n1:Int) ≤ 400:=by omega
    have d2:(n2:Int) ≤ 400:=by omega
    have d3:¬ (n3:Int) ≤ 400:=by omega
    rw [decide_eq_true h1,decide_eq_true h2,decide_eq_false h3]
    clear key
    go_enter Tryd.func7,Tryd.ntmps7
    go_wp2_with fail
    go_ret
    exact ⟨rfl,(Below.refl _ _).alloc (Nat.le_refl _) _⟩
  ·have d1:(n1:Int) ≤ 400:=by omega
   have d2:¬ (n2:Int) ≤ 400:=by omega
   rw [decide_eq_true h1,decide_eq_false h2]
   clear key
   go_enter Tryd.func7,Tryd.ntmps7
   go_wp2_with fail
   go_ret
   exact ⟨rfl,(Below.refl _ _).alloc (Nat.le_refl _) _⟩
 ·have d1:¬ (n1:Int) ≤ 400:=by omega
  rw [decide_eq_false h1]
  clear key
  go_enter Tryd.func7,Tryd.ntmps7
  go_wp2_with fail
  go_ret
  exact ⟨rfl,(Below.refl _ _).alloc (Nat.le_refl _) _⟩
end Go.Proofs.YtkmhmnffbgedgaaDoor
