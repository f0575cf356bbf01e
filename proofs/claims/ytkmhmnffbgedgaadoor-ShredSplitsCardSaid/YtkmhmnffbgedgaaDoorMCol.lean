/- Merged texts: Col1, Col2, Col3, Col4. -/
import Derived.Test.YtkmhmnffbgedgaaDoorMRow
import Derived.Test.YtkmhmnffbgedgaaDoorMVal
import Derived.Test.YtkmhmnffbgedgaaDoorMEnc
import Derived.Test.YtkmhmnffbgedgaaDoorMBits
import Derived.BigQuiet
import Derived.Deep.DeepCutAuto
/- Columns and leaves: plain Lean; in memory; the walk of shred.Right and of the document's IsLeaf. -/
namespace Go.Proofs.YtkmhmnffbgedgaaDoor
set_option maxHeartbeats 8000000
set_option linter.unusedVariables false
open Go Go.RowKit Go.ChangeShapes
def rightB (f:Lf):Bool:=decide (1 ≤ f.kind ∧ f.kind ≤ 5 ∧ 0 ≤ f.mr ∧ f.mr ≤ 40 ∧ 0 ≤ f.md ∧ f.md ≤ 40)
def lvl (f:Lf) (r d:Int):Prop:=0 ≤ r ∧ r ≤ f.mr ∧ 0 ≤ d ∧ d ≤ f.md
instance (f:Lf) (r d:Int):Decidable (lvl f r d):=by unfold lvl;infer_instance
def levelsB (f:Lf):List Int → List Int → Bool
 | r :: rs,d :: ds=>decide (lvl f r d) && levelsB f rs ds
 | _,_=>true
def many (md:Int) (l:List Int):Nat:=(l.filter fun d=>d == md).length
def headB (f:Lf) (c:Col) (free:Bool):Bool:=rightB f && (decide (f.id = c.id) && (decide (c.rep.length = c.df.length) && (free || (c.rep.head?.getD 0 == 0))))
def shapeB (f:Lf) (c:Col) (free:Bool):Bool:=headB f c free && (levelsB f c.rep c.df && decide (many f.md c.df = c.vals.length))
def colErr (f:Lf) (c:Col) (free:Bool):GErr:=if shapeB f c free then (match badAt f.kind c.vals 0 with | .none=>.nil | .some i=>.fault 4 (i:Nat)) else .sent 3
set_option maxRecDepth 100000 in
theorem right_yes (f:Lf) (p:Value) (w:World) (h:rightB f = true) :
  Calls Tryd.prog 44 #[.agg #[.int .i64 f.id,.int .i64 f.kind,.int .i64 f.mr,.int .i64 f.md,p]] w fun e w'=>e = .returned (.bool true) ∧ Below w.heap.size w w':=by
 obtain ⟨id,k,mr,md,pp⟩:=f
 unfold rightB at h
 rw [decide_eq_true_iff] at h
 obtain ⟨k1,k5,r0,r1,d0,d1⟩:=h
 simp only at k1 k5 r0 r1 d0 d1
 go_enter Tryd.func44,Tryd.ntmps44
 go_wp2
 go_ret
 exact ⟨ret_of (by simp),(Below.refl _ _).alloc (Nat.le_refl _) _⟩
set_option maxRecDepth 100000 in
theorem right_no (f:Lf) (p:Value) (w:World) (h:rightB f = false) :
  Calls Tryd.prog 44 #[.agg #[.int .i64 f.id,.int .i64 f.kind,.int .i64 f.mr,.int .i64 f.md,p]] w fun e w'=>e = .returned (.bool false) ∧ Below w.heap.size w w':=by
 obtain ⟨id,k,mr,md,pp⟩:=f
 unfold rightB at h
 rw [decide_eq_false_iff_not] at h
 simp only at h
 by_cases k1:1 ≤ k
 ·by_cases k5:k ≤ 5
  ·by_cases r0:0 ≤ mr
   ·by_cases r1:mr ≤ 40
    ·by_cases d0:0 ≤ md
     ·have d1:¬ md ≤ 40:=fun d1=>h ⟨k1,k5,r0,r1,d0,d1⟩
      clear h
      go_enter Tryd.func44,Tryd.ntmps44
      go_wp2
      go_ret
      exact ⟨ret_of (by simp),(Below.refl _ _).alloc (Nat.le_refl _) _⟩
     ·clear h
      go_enter Tryd.func44,Tryd.ntmps44
      go_wp2
      go_ret
      exact ⟨ret_of (by simp),(Below.refl _ _).alloc (Nat.le_refl _) _⟩
    ·clear h
     go_enter Tryd.func44,Tryd.ntmps44
     go_wp2
     go_ret
     exact ⟨ret_of (by simp),(Below.refl _ _).alloc (Nat.le_refl _) _⟩
   ·clear h
    go_enter Tryd.func44,Tryd.ntmps44
    go_wp2
    go_ret
    exact ⟨ret_of (by simp),(Below.refl _ _).alloc (Nat.le_refl _) _⟩
  ·clear h
   go_enter Tryd.func44,Tryd.ntmps44
   go_wp2
   go_ret
   exact ⟨ret_of (by simp),(Below.refl _ _).alloc (Nat.le_refl _) _⟩
 ·clear h
  go_enter Tryd.func44,Tryd.ntmps44
  go_wp2
  go_ret
  exact ⟨ret_of (by simp),(Below.refl _ _).alloc (Nat.le_refl _) _⟩
end Go.Proofs.YtkmhmnffbgedgaaDoor
/- The walk of shred.Check: where what stands ahead of the entries is wrong. -/
namespace Go.Proofs.YtkmhmnffbgedgaaDoor
set_option maxHeartbeats 8000000
set_option linter.unusedVariables false
open Go Go.RowKit Go.ChangeShapes
set_option maxRecDepth 100000 in
theorem ck_right (f:Lf) (c:Col) (free:Bool) (vf vc:Value) (w:World) (adr:Nat → Addr) (hE:ErrsAt w adr [3,4]) (hf:IsLf w vf f) (hc:IsCol w vc c) (h:rightB f = false) :
  Calls Tryd.prog 29 #[vf,vc,.bool free] w fun e w'=>e = .returned (.iface 174 (.pointer (some (adr 3)))) ∧ Below w.heap.size w w':=by
 obtain ⟨p,rfl,hp⟩:=hf
 obtain ⟨a,b,d,rfl,ha,hb,hd⟩:=hc
 have e3:=hE.cell 3 (by decide)
 unfold gErr at e3
 have hg:=block_lt_of_cell e3
 simp only at hg
 clear hE hp ha hb hd
 unfold lfA colA
 go_enter Tryd.func29,Tryd.ntmps29
 go_wp2_with fail
 refine (right_no f p _ h).mono ?_;rintro e w1 ⟨rfl,hb1⟩
 obtain ⟨rA,rB,hbw,hz⟩:=rows2 hb1
 have e31:=(hbw.cell hg).trans e3
 clear hb1 h e3
 go_wp2_with fail
 go_loop [7,8,9] (fun v o i=>v = .int .i64 0 ∧ o = .bool false ∧ i = .int .i64 0) (fun _ _ _=>0)
 case atStart=>exact ⟨rfl,rfl,rfl⟩
 case round =>
  obtain ⟨rfl,rfl,rfl⟩:=hrel
  go_wp2_with fail
  go_ret
  exact ⟨rfl,hbw⟩
set_option maxRecDepth 100000 in
theorem ck_id (f:Lf) (c:Col) (free:Bool) (vf vc:Value) (w:World) (adr:Nat → Addr) (hE:ErrsAt w adr [3,4]) (hf:IsLf w vf f) (hc:IsCol w vc c) (h:rightB f = true) (h1:¬ f.id = c.id) :
  Calls Tryd.prog 29 #[vf,vc,.bool free] w fun e w'=>e = .returned (.iface 174 (.pointer (some (adr 3)))) ∧ Below w.heap.size w w':=by
 obtain ⟨p,rfl,hp⟩:=hf
 obtain ⟨a,b,d,rfl,ha,hb,hd⟩:=hc
 have e3:=hE.cell 3 (by decide)
 unfold gErr at e3
 have hg:=block_lt_of_cell e3
 simp only at hg
 have h1':(f.id == c.id) = false:=by simpa using h1
 clear hE hp ha hb hd h1
 unfold lfA colA
 go_enter Tryd.func29,Tryd.ntmps29
 go_wp2_with fail
 refine (right_yes f p _ h).mono ?_;rintro e w1 ⟨rfl,hb1⟩
 obtain ⟨rA,rB,hbw,hz⟩:=rows2 hb1
 have e31:=(hbw.cell hg).trans e3
 have cA:=rowc rA;have cB:=rowc rB
 clear hb1 h e3 rA rB
 go_wp2_with fail
 go_loop [7,8,9] (fun v o i=>v = .int .i64 0 ∧ o = .bool false ∧ i = .int .i64 0) (fun _ _ _=>0)
 case atStart=>exact ⟨rfl,rfl,rfl⟩
 case round =>
  obtain ⟨rfl,rfl,rfl⟩:=hrel
  go_wp2_with fail
  go_ret
  exact ⟨rfl,hbw⟩
set_option maxRecDepth 100000 in
theorem ck_len (f:Lf) (c:Col) (free:Bool) (vf vc:Value) (w:World) (adr:Nat → Addr) (hE:ErrsAt w adr [3,4]) (hf:IsLf w vf f) (hc:IsCol w vc c) (h:rightB f = true) (h1:f.id = c.id) (h2:¬ c.rep.length = c.df.length) :
  Calls Tryd.prog 29 #[vf,vc,.bool free] w fun e w'=>e = .returned (.iface 174 (.pointer (some (adr 3)))) ∧ Below w.heap.size w w':=by
 obtain ⟨p,rfl,hp⟩:=hf
 obtain ⟨a,b,d,rfl,ha,hb,hd⟩:=hc
 have e3:=hE.cell 3 (by decide)
 unfold gErr at e3
 have hg:=block_lt_of_cell e3
 simp only at hg
 have h1':(f.id == c.id) = true:=by simpa using h1
 have h2':((c.rep.length:Int) == (c.df.length:Int)) = false:=by simp;omega
 obtain ⟨a1,n1,rfl⟩:=ha.form
 obtain ⟨a2,n2,rfl⟩:=hb.form
 clear hE hp ha hb hd h1 h2
 unfold lfA colA
 go_enter Tryd.func29,Tryd.ntmps29
 go_wp2_with fail
 refine (right_yes f p _ h).mono ?_;rintro e w1 ⟨rfl,hb1⟩
 obtain ⟨rA,rB,hbw,hz⟩:=rows2 hb1
 have e31:=(hbw.cell hg).trans e3
 have cA:=rowc rA;have cB:=rowc rB
 clear hb1 h e3 rA rB
 go_wp2_with fail
 go_loop [7,8,9] (fun v o i=>v = .int .i64 0 ∧ o = .bool false ∧ i = .int .i64 0) (fun _ _ _=>0)
 case atStart=>exact ⟨rfl,rfl,rfl⟩
 case round =>
  obtain ⟨rfl,rfl,rfl⟩:=hrel
  go_wp2_with fail
  go_ret
  exact ⟨rfl,hbw⟩
set_option maxRecDepth 100000 in
theorem ck_first (f:Lf) (c:Col) (free:Bool) (vf vc:Value) (w:World) (adr:Nat → Addr) (hE:ErrsAt w adr [3,4]) (hf:IsLf w vf f) (hc:IsCol w vc c) (hfr:free = false) (h:rightB f = true) (h1:f.id = c.id) (h2:c.rep.length = c.df.length) (r:Int) (h3:c.rep[0]? = some r) (h4:¬ r = 0) :
  Calls Tryd.prog 29 #[vf,vc,.bool free] w fun e w'=>e = .returned (.iface 174 (.pointer (some (adr 3)))) ∧ Below w.heap.size w w':=by
 obtain ⟨p,rfl,hp⟩:=hf
 obtain ⟨a,b,d,rfl,ha,hb,hd⟩:=hc
 have e3:=hE.cell 3 (by decide)
 unfold gErr at e3
 have hg:=block_lt_of_cell e3
 simp only at hg
 subst hfr
 have h1':(f.id == c.id) = true:=by simpa using h1
 have hl:=(List.getElem?_eq_some_iff.1 h3).1
 obtain ⟨a1,k1,rfl⟩:=ha.form
 obtain ⟨b1,o1,rfl,_,hlt,hcs⟩:=ha.at hl
 replace hcs:w.cell? ⟨b1,o1,none⟩ = some (.int .i64 r):=by simpa using hcs 0 r h3
 obtain ⟨a2,n2,rfl⟩:=hb.form
 rw [← h2]
 generalize hn:c.rep.length = n at *
 have h3':((n:Int) == 0) = false:=by simp;omega
 have h4':(r == 0) = false:=by simpa using h4
 clear hE hp ha hb hd h1 h2 h3 h4 hn
 unfold lfA colA
 go_enter Tryd.func29,Tryd.ntmps29
 go_wp2_with fail
 refine (right_yes f p _ h).mono ?_;rintro e w1 ⟨rfl,hb1⟩
 obtain ⟨rA,rB,hbw,hz⟩:=rows2 hb1
 have e31:=(hbw.cell hg).trans e3
 have cA:=rowc rA;have cB:=rowc rB
 have hcs1:=(hbw.cell (p:=⟨b1,o1,none⟩) hlt).trans hcs
 have hl':(0:Int) < (n:Int):=by omega
 clear hcs
 clear hb1 h e3 rA rB
 go_wp2_with fail
 go_loop [7,8,9] (fun v o i=>v = .int .i64 0 ∧ o = .bool false ∧ i = .int .i64 0) (fun _ _ _=>0)
 case atStart=>exact ⟨rfl,rfl,rfl⟩
 case round =>
  obtain ⟨rfl,rfl,rfl⟩:=hrel
  go_wp2_with fail
  go_ret
  exact ⟨rfl,hbw⟩
end Go.Proofs.YtkmhmnffbgedgaaDoor
/- The walk of shred.Check: where what stands ahead of the entries is right. -/
namespace Go.Proofs.YtkmhmnffbgedgaaDoor
set_option maxHeartbeats 8000000
set_option linter.unusedVariables false
open Go Go.RowKit Go.ChangeShapes
theorem levelsB_bad (f:Lf):∀ (a b:List Int) (k:Nat) (r d:Int),a[k]? = some r → b[k]? = some d → ¬ lvl f r d → levelsB f a b = false
 | [],_,_,_,_,h,_,_=>by simp at h
 | _ :: _,[],_,_,_,_,h,_=>by simp at h
 | x :: a,y :: b,k,r,d,h1,h2,hn=>by
  cases k with
  | zero=>simp at h1 h2;subst h1 h2;simp [levelsB,hn]
  | succ k=>simp at h1 h2;simp [levelsB,levelsB_bad f a b k r d h1 h2 hn]
theorem levelsB_all (f:Lf):∀ (a b:List Int),(∀ (k:Nat) (r d:Int),a[k]? = some r → b[k]? = some d → lvl f r d) → levelsB f a b = true
 | [],_,_=>rfl
 | _ :: _,[],_=>rfl
 | x :: a,y :: b,h=>by
  rw [levelsB,levelsB_all f a b fun k r d h1 h2=>h (k + 1) r d (by simpa using h1) (by simpa using h2)]
  simp [h 0 x y rfl rfl]
theorem many_snoc (md:Int) (l:List Int) (k:Nat) (d:Int) (h:l[k]? = some d):many md (l.take (k + 1)) = many md (l.take k) + if d = md then 1 else 0:=by
 unfold many
 rw [List.take_add_one,h,List.filter_append,List.length_append]
 by_cases hd:d = md <;> simp [hd]
theorem colErr_levels {f:Lf} {c:Col} {free:Bool} (h:levelsB f c.rep c.df = false):colErr f c free = .sent 3:=by
 unfold colErr shapeB
 simp [h]
theorem colErr_many {f:Lf} {c:Col} {free:Bool} (h:¬ many f.md c.df = c.vals.length):colErr f c free = .sent 3:=by
 unfold colErr shapeB
 simp [h]
theorem colErr_head {f:Lf} {c:Col} {free:Bool} (h:headB f c free = false):colErr f c free = .sent 3:=by
 unfold colErr shapeB
 simp [h]
theorem colErr_vals {f:Lf} {c:Col} {free:Bool} (h:headB f c free = true) (h1:levelsB f c.rep c.df = true) (h2:many f.md c.df = c.vals.length):colErr f c free = match badAt f.kind c.vals 0 with | .none=>.nil | .some i=>.fault 4 (i:Nat):=by
 unfold colErr shapeB
 refine Eq.trans (if_pos (by simp [h,h1,h2])) ?_
 cases badAt f.kind c.vals 0 <;> rfl
def CkSo (f:Lf) (c:Col) (k:Nat) (m:Nat) (o:Bool):Prop :=
 m ≤ k ∧ (if o then (∀ (j:Nat) (r d:Int),j < k → c.rep[j]? = some r → c.df[j]? = some d → lvl f r d) ∧ m = many f.md (c.df.take k) else levelsB f c.rep c.df = false)
theorem CkSo.next {f:Lf} {c:Col} {k m:Nat} {r d:Int} (h:CkSo f c k m true) (hr:c.rep[k]? = some r) (hd:c.df[k]? = some d) (m':Nat) (hm:m' = m + if d = f.md then 1 else 0) :
  CkSo f c (k + 1) m' (decide (lvl f r d)):=by
 obtain ⟨h1,h2,h3⟩:=h
 subst hm
 refine ⟨by split <;> omega,?_⟩
 by_cases hl:lvl f r d
 ·simp only [hl,decide_true,if_true]
  refine ⟨fun j r' d' hj hr' hd'=>?_,by rw [many_snoc _ _ _ _ hd,h3]⟩
  rcases Nat.lt_or_ge j k with h | h
  ·exact h2 j r' d' h hr' hd'
  ·obtain rfl:j = k:=by omega
   rw [hr] at hr';rw [hd] at hd'
   obtain rfl:=Option.some.inj hr';obtain rfl:=Option.some.inj hd'
   exact hl
 ·simp only [hl,decide_false]
  exact levelsB_bad f c.rep c.df k r d hr hd hl
set_option maxRecDepth 100000 in
theorem ck_head (f:Lf) (c:Col) (free:Bool) (vf vc:Value) (w:World) (adr:Nat → Addr) (hE:ErrsAt w adr [3,4]) (hf:IsLf w vf f) (hc:IsCol w vc c) (fo:f.Ok) (co:c.Ok) (h:headB f c free = true) :
  Calls Tryd.prog 29 #[vf,vc,.bool free] w fun e w'=>(∃ u,e = .returned u ∧ IsErr w' adr (colErr f c free) u) ∧ Below w.heap.size w w':=by
 obtain ⟨iv,hiv,hzv,hsv⟩:=val_info
 have hsz:(Tryd.prog.info? 61).map (·.size) = some (valA ⟨0,0,⟨#[]⟩⟩).size:=by rw [hiv];simp [hsv,valA]
 have Hhead:=Lib.hid h
 unfold headB at h
 rw [Bool.and_eq_true,Bool.and_eq_true,Bool.and_eq_true,decide_eq_true_iff,decide_eq_true_iff] at h
 obtain ⟨hR,h1,h2,h3⟩:=h
 obtain ⟨p,rfl,hp⟩:=hf
 obtain ⟨a,b,d,rfl,ha,hb,hd⟩:=hc
 have e3:=hE.cell 3 (by decide)
 unfold gErr at e3
 have hg:=block_lt_of_cell e3
 simp only at hg
 obtain ⟨n,hn1,hn2⟩:∃ n,c.rep.length = n ∧ c.df.length = n:=⟨_,rfl,h2.symm⟩
 obtain ⟨a1,q1,rfl⟩:∃ x y,a = .slice x n y:=by obtain ⟨x,y,hx⟩:=ha.form;exact ⟨x,y,by rw [hx,hn1]⟩
 obtain ⟨a2,q2,rfl⟩:∃ x y,b = .slice x n y:=by obtain ⟨x,y,hx⟩:=hb.form;exact ⟨x,y,by rw [hx,hn2]⟩
 obtain ⟨a3,q3,rfl⟩:=hd.form
 have Ha:=Lib.hid ha;have Hb:=Lib.hid hb;have Hd:=Lib.hid hd;have HE:=Lib.hid hE;have Hfo:=Lib.hid fo;have Hco:=Lib.hid co
 have hml:n ≤ 9223372036854775807:=by have:=co.rep.1;unfold maxLen at this;omega
 have hvl:c.vals.length ≤ 9223372036854775807:=by have:=co.vals.1;unfold maxLen at this;exact this
 have h1':(f.id == c.id) = true:=by simpa using h1
 have Hn1:=Lib.hid hn1;have Hn2:=Lib.hid hn2
 have HfA:=Lib.hid (show f.mr ≤ 40 ∧ f.md ≤ 40 ∧ 0 ≤ f.mr ∧ 0 ≤ f.md from by unfold rightB at hR;rw [decide_eq_true_iff] at hR;omega)
 clear hE hp ha hb hd h1 h2 hn1 hn2 fo co
 unfold lfA colA
 go_enter Tryd.func29,Tryd.ntmps29
 go_upto_region 2 with fail
 go_cut [8] (fun s8 wx=>s8 = .bool true ∧ wx.heap[w.heap.size]? = some (.cells #[.int .i64 f.id,.int .i64 f.kind,.int .i64 f.mr,.int .i64 f.md,p] 39 (0,0)) ∧ wx.heap[w.heap.size + 1]? = some (.cells #[.int .i64 c.id,.slice a1 n q1,.slice a2 n q2,.slice a3 c.vals.length q3] 32 (0,0)) ∧ Below w.heap.size w wx)
 case first =>
  go_wp2_with fail
  refine (right_yes f p _ hR).mono ?_;rintro e w1 ⟨rfl,hb1⟩
  obtain ⟨rA,rB,hbw,hz⟩:=rows2 hb1
  have cA:=rowc rA;have cB:=rowc rB;have RA:=Lib.hid rA;have RB:=Lib.hid rB;have Hbw:=Lib.hid hbw
  clear hb1 rA rB hR
  cases free with
  | true =>
   go_wp2_with fail
   go_meet
   exact ⟨rfl,RA.out,RB.out,Hbw.out⟩
  | false =>
   by_cases hn0:n = 0
   ·subst hn0
    go_wp2_with fail
    go_meet
    exact ⟨rfl,RA.out,RB.out,Hbw.out⟩
   ·have hl0:0 < c.rep.length:=by rw [Hn1.out];omega
    obtain ⟨b1,o1,rfl,-,hlt,hcs⟩:=Ha.out.at hl0
    have h30:c.rep[0]? = some 0:=by
     rw [Bool.false_or,beq_iff_eq,List.head?_eq_getElem?,List.getElem?_eq_getElem hl0] at h3
     rw [List.getElem?_eq_getElem hl0]
     exact congrArg some h3
    have hcs1:w1.cell? ⟨b1,o1,none⟩ = some (.int .i64 0):=(Hbw.out.cell (p:=⟨b1,o1,none⟩) hlt).trans (by simpa using hcs 0 0 h30)
    have hl':(0:Int) < (n:Int):=by omega
    have hn':((n:Int) == 0) = false:=by simp;omega
    have hn0':0 < n:=by omega
    clear hcs hl0 h30 h3
    go_wp2_with fail
    go_meet
    exact ⟨rfl,RA.out,RB.out,Hbw.out⟩
 case rest =>
  obtain ⟨rfl,rA,rB,hbw⟩:=hcut
  have RA:=Lib.hid rA;have RB:=Lib.hid rB;have Hbw:=Lib.hid hbw
  clear rA rB hbw h3
  go_wp2_with fail
  go_loopw [7,8,9] (fun v o i wr=>∃ (k m:Nat) (t:Bool),k ≤ n ∧ v = .int .i64 (m:Nat) ∧ o = .bool t ∧ i = .int .i64 (k:Nat) ∧ CkSo f c k m t ∧ Below wc.heap.size wc wr) (fun _ _ i _=>n - (intOf i).toNat)
  case atStart=>exact ⟨0,0,true,Nat.zero_le _,rfl,rfl,rfl,⟨Nat.zero_le _,by simp [many]⟩,Below.refl _ _⟩
  case round =>
   obtain ⟨k,m,t,hk,rfl,rfl,rfl,hso,hbr⟩:=hrel
   have rAr:=row_keep hbr RA.out;have rBr:=row_keep hbr RB.out
   have cA:=rowc rAr;have cB:=rowc rBr
   have hmk:=hso.1
   have Hso:=Lib.hid hso;have Hbr:=Lib.hid hbr
   have Hbwr:=Lib.hid (Hbw.out.trans (hbr.mono Hbw.out.size))
   have e3r:=(Hbwr.out.cell hg).trans e3
   clear hso hbr rAr rBr
   cases t with
   | false =>
    go_wp2_with fail
    go_ret
    have hlv:=Hso.out.2
    simp only [Bool.false_eq_true,if_false] at hlv
    rw [colErr_levels hlv]
    exact ⟨⟨_,rfl,by decide,by decide,rfl⟩,Hbwr.out⟩
   | true =>
    by_cases hlt:k < n
    ·have hl1:k < c.rep.length:=by rw [Hn1.out];exact hlt
     have hl2:k < c.df.length:=by rw [Hn2.out];exact hlt
     obtain ⟨b1,o1,rfl,-,hlt1,hc1⟩:=Ha.out.at (by omega)
     obtain ⟨b2,o2,rfl,-,hlt2,hc2⟩:=Hb.out.at (by omega)
     have cr:wr.cell? ⟨b1,o1 + k,none⟩ = _:=(Hbwr.out.cell (p:=⟨b1,o1 + k,none⟩) hlt1).trans (hc1 k _ (List.getElem?_eq_getElem hl1))
     have cd:wr.cell? ⟨b2,o2 + k,none⟩ = _:=(Hbwr.out.cell (p:=⟨b2,o2 + k,none⟩) hlt2).trans (hc2 k _ (List.getElem?_eq_getElem hl2))
     have Hr:=Lib.hid (List.getElem?_eq_getElem hl1);have Hdd:=Lib.hid (List.getElem?_eq_getElem hl2)
     have hin:(k:Int) < (n:Int):=by omega
     have hmd:=HfA.out.2.2.2
     generalize c.rep[k] = r at *
     generalize c.df[k] = d at *
     clear hc1 hc2 hl1 hl2
     by_cases hr0:0 ≤ r
     ·by_cases hr1:r ≤ f.mr
      ·by_cases hd0:0 ≤ d
       ·by_cases hd1:d ≤ f.md
        ·skip
         by_cases hdm:d = f.md
         ·skip
          have hr0':decide (0 ≤ r) = true:=by simpa using hr0
          have hr1':decide (r ≤ f.mr) = true:=by simpa using hr1
          have hd0':decide (0 ≤ d) = true:=by simpa using hd0
          have hd1':decide (d ≤ f.md) = true:=by simpa using hd1
          have hnx:=Hso.out.next Hr.out Hdd.out (m + 1) (by simp [hdm])
          rw [show decide (lvl f r d) = true from decide_eq_true ⟨hr0,hr1,hd0,hd1⟩] at hnx
          have Hnx:=Lib.hid hnx;have hdm':(d == f.md) = true:=by simpa using hdm
          clear hnx hdm
          go_wp2_with fail
          go_quiet (fail)
          go_wp2_with fail
          go_quiet (fail)
          go_wp2_with fail
          go_roundw
          case rel=>exact ⟨k + 1,_,_,by omega,by go_num,rfl,by go_num,Hnx.out,below_drewN Hbr.out _⟩
          case measure=>simp [intOf];omega
         ·skip
          have hr0':decide (0 ≤ r) = true:=by simpa using hr0
          have hr1':decide (r ≤ f.mr) = true:=by simpa using hr1
          have hd0':decide (0 ≤ d) = true:=by simpa using hd0
          have hd1':decide (d ≤ f.md) = true:=by simpa using hd1
          have hnx:=Hso.out.next Hr.out Hdd.out m (by simp [hdm])
          rw [show decide (lvl f r d) = true from decide_eq_true ⟨hr0,hr1,hd0,hd1⟩] at hnx
          have Hnx:=Lib.hid hnx;have hdm':(d == f.md) = false:=by simpa using hdm
          clear hnx hdm
          go_wp2_with fail
          go_quiet (fail)
          go_wp2_with fail
          go_quiet (fail)
          go_wp2_with fail
          go_roundw
          case rel=>exact ⟨k + 1,_,_,by omega,rfl,rfl,by go_num,Hnx.out,below_drewN Hbr.out _⟩
          case measure=>simp [intOf];omega
        ·skip
         have hdm:¬ d = f.md:=by omega
         have hr0':decide (0 ≤ r) = true:=by simpa using hr0
         have hr1':decide (r ≤ f.mr) = true:=by simpa using hr1
         have hd0':decide (0 ≤ d) = true:=by simpa using hd0
         have hd1':decide (d ≤ f.md) = false:=by simpa using hd1
         have hnx:=Hso.out.next Hr.out Hdd.out m (by simp [hdm])
         rw [show decide (lvl f r d) = false from decide_eq_false (fun hh=>by obtain ⟨q0,q1,q2,q3⟩:=hh;omega)] at hnx
         have Hnx:=Lib.hid hnx;have hdm':(d == f.md) = false:=by simpa using hdm
         clear hnx hdm
         go_wp2_with fail
         go_quiet (fail)
         go_wp2_with fail
         go_quiet (fail)
         go_wp2_with fail
         go_roundw
         case rel=>exact ⟨k + 1,_,_,by omega,rfl,rfl,by go_num,Hnx.out,below_drewN Hbr.out _⟩
         case measure=>simp [intOf];omega
       ·skip
        have hdm:¬ d = f.md:=by omega
        have hr0':decide (0 ≤ r) = true:=by simpa using hr0
        have hr1':decide (r ≤ f.mr) = true:=by simpa using hr1
        have hd0':decide (0 ≤ d) = false:=by simpa using hd0
        have hnx:=Hso.out.next Hr.out Hdd.out m (by simp [hdm])
        rw [show decide (lvl f r d) = false from decide_eq_false (fun hh=>by obtain ⟨q0,q1,q2,q3⟩:=hh;omega)] at hnx
        have Hnx:=Lib.hid hnx;have hdm':(d == f.md) = false:=by simpa using hdm
        clear hnx hdm
        go_wp2_with fail
        go_quiet (fail)
        go_wp2_with fail
        go_quiet (fail)
        go_wp2_with fail
        go_roundw
        case rel=>exact ⟨k + 1,_,_,by omega,rfl,rfl,by go_num,Hnx.out,below_drewN Hbr.out _⟩
        case measure=>simp [intOf];omega
      ·skip
       by_cases hdm:d = f.md
       ·skip
        have hr0':decide (0 ≤ r) = true:=by simpa using hr0
        have hr1':decide (r ≤ f.mr) = false:=by simpa using hr1
        have hnx:=Hso.out.next Hr.out Hdd.out (m + 1) (by simp [hdm])
        rw [show decide (lvl f r d) = false from decide_eq_false (fun hh=>by obtain ⟨q0,q1,q2,q3⟩:=hh;omega)] at hnx
        have Hnx:=Lib.hid hnx;have hdm':(d == f.md) = true:=by simpa using hdm
        clear hnx hdm
        go_wp2_with fail
        go_quiet (fail)
        go_wp2_with fail
        go_quiet (fail)
        go_wp2_with fail
        go_roundw
        case rel=>exact ⟨k + 1,_,_,by omega,by go_num,rfl,by go_num,Hnx.out,below_drewN Hbr.out _⟩
        case measure=>simp [intOf];omega
       ·skip
        have hr0':decide (0 ≤ r) = true:=by simpa using hr0
        have hr1':decide (r ≤ f.mr) = false:=by simpa using hr1
        have hnx:=Hso.out.next Hr.out Hdd.out m (by simp [hdm])
        rw [show decide (lvl f r d) = false from decide_eq_false (fun hh=>by obtain ⟨q0,q1,q2,q3⟩:=hh;omega)] at hnx
        have Hnx:=Lib.hid hnx;have hdm':(d == f.md) = false:=by simpa using hdm
        clear hnx hdm
        go_wp2_with fail
        go_quiet (fail)
        go_wp2_with fail
        go_quiet (fail)
        go_wp2_with fail
        go_roundw
        case rel=>exact ⟨k + 1,_,_,by omega,rfl,rfl,by go_num,Hnx.out,below_drewN Hbr.out _⟩
        case measure=>simp [intOf];omega
     ·skip
      by_cases hdm:d = f.md
      ·skip
       have hr0':decide (0 ≤ r) = false:=by simpa using hr0
       have hnx:=Hso.out.next Hr.out Hdd.out (m + 1) (by simp [hdm])
       rw [show decide (lvl f r d) = false from decide_eq_false (fun hh=>by obtain ⟨q0,q1,q2,q3⟩:=hh;omega)] at hnx
       have Hnx:=Lib.hid hnx;have hdm':(d == f.md) = true:=by simpa using hdm
       clear hnx hdm
       go_wp2_with fail
       go_quiet (fail)
       go_wp2_with fail
       go_quiet (fail)
       go_wp2_with fail
       go_roundw
       case rel=>exact ⟨k + 1,_,_,by omega,by go_num,rfl,by go_num,Hnx.out,below_drewN Hbr.out _⟩
       case measure=>simp [intOf];omega
      ·skip
       have hr0':decide (0 ≤ r) = false:=by simpa using hr0
       have hnx:=Hso.out.next Hr.out Hdd.out m (by simp [hdm])
       rw [show decide (lvl f r d) = false from decide_eq_false (fun hh=>by obtain ⟨q0,q1,q2,q3⟩:=hh;omega)] at hnx
       have Hnx:=Lib.hid hnx;have hdm':(d == f.md) = false:=by simpa using hdm
       clear hnx hdm
       go_wp2_with fail
       go_quiet (fail)
       go_wp2_with fail
       go_quiet (fail)
       go_wp2_with fail
       go_roundw
       case rel=>exact ⟨k + 1,_,_,by omega,rfl,rfl,by go_num,Hnx.out,below_drewN Hbr.out _⟩
       case measure=>simp [intOf];omega
    ·obtain rfl:k = n:=by omega
     have hso2:=Hso.out.2
     simp only [if_true] at hso2
     obtain ⟨hl1,hm1⟩:=hso2
     have hlev:levelsB f c.rep c.df = true:=levelsB_all f c.rep c.df fun j r d hr hd=>hl1 j r d (by have:=(List.getElem?_eq_some_iff.1 hr).1;rw [Hn1.out] at this;exact this) hr hd
     rw [List.take_of_length_le (by rw [Hn2.out];exact Nat.le_refl _)] at hm1
     by_cases hmv:m = c.vals.length
     ·have hce:=colErr_vals (free:=free) Hhead.out hlev (hm1.symm.trans hmv)
      obtain ⟨wo,rfl⟩:∃ wo:World,wo = wr:=⟨_,rfl⟩
      have RAr:=Lib.hid (row_keep Hbr.out RA.out)
      subst hmv
      have hm1':=Lib.hid hm1
      clear hl1 hm1 hlev
      cases hbad:badAt f.kind c.vals 0 with
      | none =>
       have HP:=Lib.hid ((badAt_none f.kind c.vals 0).1 hbad)
       have HC:Hid (colErr f c free = .nil):=Lib.hid (by rw [hce,hbad])
       clear hbad hce
       go_wp2_with fail
       go_loopw [113] (fun q wr=>∃ j:Nat,j ≤ c.vals.length ∧ q = .int .i64 (j:Nat) ∧ Below wo.heap.size wo wr) (fun q _=>c.vals.length - (intOf q).toNat)
       case atStart=>exact ⟨0,Nat.zero_le _,rfl,Below.refl _ _⟩
       case round =>
        obtain ⟨j,hj,rfl,hb2⟩:=hrel
        have rA2:=row_keep hb2 RAr.out
        have cA2:=rowc rA2;have hz2:w.heap.size < wr.heap.size:=row_lt rA2;have Hb2:=Lib.hid hb2
        clear rA2 hb2
        by_cases hjl:j < c.vals.length
        ·obtain ⟨b0,off,rfl,-,hlt0,hcv⟩:=((Hd.out.below Hbwr.out (Nat.le_refl _)).below Hb2.out (Nat.le_refl _)).at (by omega)
         have hin:(j:Int) < (c.vals.length:Int):=by omega
         have hcx:=hcv j c.vals[j] (List.getElem?_eq_getElem hjl)
         have hox:=Hco.out.vals.2 c.vals[j] (List.getElem_mem hjl)
         have hpx:=HP.out c.vals[j] (List.getElem_mem hjl)
         generalize c.vals[j] = y at *
         have hOK:=Lib.hid (fun w5=>ok_yes f.kind y hox w5 hpx)
         have Hcx:=Lib.hid hcx.cells
         clear hcv hcx hox hpx
         go_wp2_with (first
         | (refine wpList_load_cells rfl 61 _ rfl b0 (off + j * 3) rfl (valA y) _ Hcx.out Tryd.underlying61 rfl hsz ?_)
         | (refine wpList_alloc_row rfl 61 rfl iv _ _ hiv hzv rfl ?_)
         | (refine wpList_store_new rfl rfl 61 _ _ rfl rfl _ (valA y) rfl hsz rfl (valA_one y) ?_)
         | (refine wpList_load_row rfl 61 _ rfl wr.heap.size rfl 61 (valA y) (0,0) _ (heap_alloc_last _ _) Tryd.underlying61 rfl hsz ?_))
         refine (hOK.out _).mono ?_;rintro e w5 ⟨rfl,hb5⟩
         go_wp2_with fail
         go_roundw
         case rel=>exact ⟨j + 1,by omega,by go_num,(Hb2.out.alloc Hb2.out.size _).trans (hb5.mono (by simp;have:=Hb2.out.size;omega))⟩
         case measure=>simp [intOf];omega
        ·go_wp2_with fail
         go_ret
         exact ⟨⟨_,rfl,by rw [HC.out];exact rfl⟩,Hbwr.out.trans (Hb2.out.mono Hbwr.out.size)⟩
      | some i =>
       obtain ⟨q,y,hj,hx,hn,hPP⟩:=badAt_some f.kind c.vals 0 i hbad
       obtain rfl:i = q:=by omega
       have HP:=Lib.hid hPP;have HY:=Lib.hid (And.intro hx hn)
       have hil:i < c.vals.length:=(List.getElem?_eq_some_iff.1 hx).1
       have HC:Hid (colErr f c free = .fault 4 (i:Nat)):=Lib.hid (by rw [hce,hbad])
       clear hbad hj hx hn hPP hce
       go_wp2_with fail
       go_loopw [113] (fun q wr=>∃ j:Nat,j ≤ i ∧ q = .int .i64 (j:Nat) ∧ Below wo.heap.size wo wr) (fun q _=>c.vals.length - (intOf q).toNat)
       case atStart=>exact ⟨0,Nat.zero_le _,rfl,Below.refl _ _⟩
       case round =>
        obtain ⟨j,hj,rfl,hb2⟩:=hrel
        have rA2:=row_keep hb2 RAr.out
        have cA2:=rowc rA2;have hz2:w.heap.size < wr.heap.size:=row_lt rA2;have Hb2:=Lib.hid hb2
        clear rA2 hb2
        have hjl:j < c.vals.length:=by omega
        by_cases hji:j < i
        ·obtain ⟨b0,off,rfl,-,hlt0,hcv⟩:=((Hd.out.below Hbwr.out (Nat.le_refl _)).below Hb2.out (Nat.le_refl _)).at (by omega)
         have hin:(j:Int) < (c.vals.length:Int):=by omega
         have hcx:=hcv j c.vals[j] (List.getElem?_eq_getElem hjl)
         have hox:=Hco.out.vals.2 c.vals[j] (List.getElem_mem hjl)
         have hpx:=HP.out j c.vals[j] hji (List.getElem?_eq_getElem hjl)
         generalize c.vals[j] = y at *
         have hOK:=Lib.hid (fun w5=>ok_yes f.kind y hox w5 hpx)
         have Hcx:=Lib.hid hcx.cells
         clear hcv hcx hox hpx
         go_wp2_with (first
         | (refine wpList_load_cells rfl 61 _ rfl b0 (off + j * 3) rfl (valA y) _ Hcx.out Tryd.underlying61 rfl hsz ?_)
         | (refine wpList_alloc_row rfl 61 rfl iv _ _ hiv hzv rfl ?_)
         | (refine wpList_store_new rfl rfl 61 _ _ rfl rfl _ (valA y) rfl hsz rfl (valA_one y) ?_)
         | (refine wpList_load_row rfl 61 _ rfl wr.heap.size rfl 61 (valA y) (0,0) _ (heap_alloc_last _ _) Tryd.underlying61 rfl hsz ?_))
         refine (hOK.out _).mono ?_;rintro e w5 ⟨rfl,hb5⟩
         go_wp2_with fail
         go_roundw
         case rel=>exact ⟨j + 1,by omega,by go_num,(Hb2.out.alloc Hb2.out.size _).trans (hb5.mono (by simp;have:=Hb2.out.size;omega))⟩
         case measure=>simp [intOf];omega
        ·obtain rfl:j = i:=by omega
         obtain ⟨b0,off,rfl,-,hlt0,hcv⟩:=((Hd.out.below Hbwr.out (Nat.le_refl _)).below Hb2.out (Nat.le_refl _)).at (by omega)
         have hin:(j:Int) < (c.vals.length:Int):=by omega
         have hcx:=hcv j y HY.out.1
         have hox:=Hco.out.vals.2 y (List.mem_of_getElem? HY.out.1)
         have hOK:=Lib.hid (fun w5=>ok_no f.kind y hox w5 HY.out.2)
         have Hcx:=Lib.hid hcx.cells
         clear hcv hcx hox
         go_wp2_with (first
         | (refine wpList_load_cells rfl 61 _ rfl b0 (off + j * 3) rfl (valA y) _ Hcx.out Tryd.underlying61 rfl hsz ?_)
         | (refine wpList_alloc_row rfl 61 rfl iv _ _ hiv hzv rfl ?_)
         | (refine wpList_store_new rfl rfl 61 _ _ rfl rfl _ (valA y) rfl hsz rfl (valA_one y) ?_)
         | (refine wpList_load_row rfl 61 _ rfl wr.heap.size rfl 61 (valA y) (0,0) _ (heap_alloc_last _ _) Tryd.underlying61 rfl hsz ?_))
         refine (hOK.out _).mono ?_;rintro e w5 ⟨rfl,hb5⟩
         have hbw5:Below w.heap.size w w5:=Hbwr.out.trans (((Hb2.out.alloc Hb2.out.size _).trans (hb5.mono (by simp;have:=Hb2.out.size;omega))).mono Hbwr.out.size)
         have e4:=(HE.out.below hbw5).cell 4 (by decide)
         unfold gErr at e4
         go_wp2_with fail
         go_ret
         exact ⟨⟨_,rfl,by rw [HC.out];exact ⟨by decide,by decide,_,rfl,by rw [World.cell?_alloc_at _ _ _ _ rfl];rfl,by rw [World.cell?_alloc_at _ _ _ _ rfl];rfl⟩⟩,hbw5.alloc hbw5.size _⟩
     ·have hmv':((m:Int) != (c.vals.length:Int)) = true:=by simp;omega
      have HC:=Lib.hid (colErr_many (free:=free) (fun hh=>hmv (hm1.trans hh)))
      clear hl1 hm1 hlev hmv
      go_wp2_with fail
      go_ret
      exact ⟨⟨_,rfl,by rw [HC.out];exact ⟨by decide,by decide,rfl⟩⟩,Hbwr.out⟩
end Go.Proofs.YtkmhmnffbgedgaaDoor
/- shred.Check at whatever leaf and column. -/
namespace Go.Proofs.YtkmhmnffbgedgaaDoor
set_option maxHeartbeats 8000000
set_option linter.unusedVariables false
open Go Go.RowKit Go.ChangeShapes
theorem ck_any (f:Lf) (c:Col) (free:Bool) (vf vc:Value) (w:World) (adr:Nat → Addr) (hE:ErrsAt w adr [3,4]) (hf:IsLf w vf f) (hc:IsCol w vc c) (fo:f.Ok) (co:c.Ok) :
  Calls Tryd.prog 29 #[vf,vc,.bool free] w fun e w'=>(∃ u,e = .returned u ∧ IsErr w' adr (colErr f c free) u) ∧ Below w.heap.size w w':=by
 by_cases h:headB f c free = true
 ·exact ck_head f c free vf vc w adr hE hf hc fo co h
 ·have h':headB f c free = false:=by simpa using h
  rw [colErr_head h']
  have fin:∀ {Q:Ending → World → Prop},(∀ e w',(e = .returned (.iface 174 (.pointer (some (adr 3)))) ∧ Below w.heap.size w w') → Q e w') → Q = Q:=fun _=>rfl
  have step:(Calls Tryd.prog 29 #[vf,vc,.bool free] w fun e w'=>e = .returned (.iface 174 (.pointer (some (adr 3)))) ∧ Below w.heap.size w w') → Calls Tryd.prog 29 #[vf,vc,.bool free] w fun e w'=>(∃ u,e = .returned u ∧ IsErr w' adr (.sent 3) u) ∧ Below w.heap.size w w':=fun hc=>hc.mono fun e w' ⟨h1,h2⟩=>⟨⟨_,h1,by decide,by decide,rfl⟩,h2⟩
  apply step
  clear step fin
  unfold headB at h'
  by_cases h1:rightB f = true
  ·by_cases h2:f.id = c.id
   ·by_cases h3:c.rep.length = c.df.length
    ·have h4:(free || (c.rep.head?.getD 0 == 0)) = false:=by simpa [h1,h2,h3] using h'
     rw [Bool.or_eq_false_iff] at h4
     obtain ⟨h5,h6⟩:=h4
     cases hr:c.rep with
     | nil=>rw [hr] at h6;simp at h6
     | cons r l =>
      rw [hr] at h6
      exact ck_first f c free vf vc w adr hE hf hc h5 h1 h2 h3 r (by rw [hr];rfl) (by simpa using h6)
    ·exact ck_len f c free vf vc w adr hE hf hc h1 h2 h3
   ·exact ck_id f c free vf vc w adr hE hf hc h1 h2
  ·exact ck_right f c free vf vc w adr hE hf hc (by simpa using h1)
end Go.Proofs.YtkmhmnffbgedgaaDoor
