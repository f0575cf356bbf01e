/- What ShredSplits asks of shred.Join and shred.Part, at right columns. -/
import Derived.Test.YtkmhmnffbgedgaaDoorJnB
import Derived.Test.YtkmhmnffbgedgaaDoorSp2
import Derived.Test.YtkmhmnffbgedgaaDoorShQ
namespace Go.Proofs.YtkmhmnffbgedgaaDoor
set_option linter.unusedVariables false
set_option linter.unusedSimpArgs false
open Go Go.RowKit Go.ChangeShapes
theorem AnyE.oneGS {P:Program} {ops:Array Oper} {Q:Exit → Act → World → Prop} {md:Region.Mode} {S:World → Prop} {E:List Nat} {i:Nat} {o:Oper} {n:Nat} {listed:Array Bool} {a:Act} {w:World} (hr:Region.ready md ops listed = [i]) (ho:ops[i]? = some o) (hw:Region.wanted o (yielded ops a.tmps) = true)
  (h:∀ K:Act → World → Prop,(∀ a' w',(E.contains i = false → S w') → AnyE P md ops Q S E n (listed.setIfInBounds i true) a' w' → K a' w') → Oper.wp P o a w K Q):AnyE P md ops Q S E (n + 1) listed a w:=by
 refine ⟨fun h0=>(by rw [hr] at h0;cases h0),?_⟩
 rw [hr]
 intro j hj
 simp only [List.mem_singleton] at hj
 subst hj
 unfold wpOp
 simp only [ho]
 rw [if_pos hw]
 exact .inl (h _ fun a' w' h1 h2=>⟨h1,h2⟩)
theorem cols_two {w:World} {g:Nat} {A B:Col} {pA qA dA pB qB dB:Value} (hr:w.heap[g]? = some (.cells #[.int .i64 A.id,pA,qA,dA,.int .i64 B.id,pB,qB,dB] 32 (0,0)))
  (hA:IsCol w (.agg #[.int .i64 A.id,pA,qA,dA]) A) (hB:IsCol w (.agg #[.int .i64 B.id,pB,qB,dB]) B):IsCols w (.slice (some ⟨g,0,none⟩) 2 2) [A,B]:=by
 obtain ⟨p1,q1,d1,e1,a1,a2,a3⟩:=hA
 obtain ⟨p2,q2,d2,e2,b1,b2,b3⟩:=hB
 unfold colA at e1 e2
 simp only [Value.agg.injEq,Array.mk.injEq,List.cons.injEq,and_true,true_and] at e1 e2
 obtain ⟨rfl,rfl,rfl⟩:=e1
 obtain ⟨rfl,rfl,rfl⟩:=e2
 refine .inr ⟨g,0,2,rfl,row_lt hr,fun j c hj=>?_⟩
 match j,hj with
 | 0,hj =>
  obtain rfl:A = c:=by simpa using hj
  refine ⟨pA,qA,dA,a1,a2,a3,fun i v hv=>?_⟩
  rw [rowc hr,← hv]
  have hi:i < 4:=by have:=(Array.getElem?_eq_some_iff.1 hv).1;simpa [colA] using this
  match i,hi with
  | 0,_=>rfl
  | 1,_=>rfl
  | 2,_=>rfl
  | 3,_=>rfl
 | 1,hj =>
  obtain rfl:B = c:=by simpa using hj
  refine ⟨pB,qB,dB,b1,b2,b3,fun i v hv=>?_⟩
  rw [rowc hr,← hv]
  have hi:i < 4:=by have:=(Array.getElem?_eq_some_iff.1 hv).1;simpa [colA] using this
  match i,hi with
  | 0,_=>rfl
  | 1,_=>rfl
  | 2,_=>rfl
  | 3,_=>rfl
 | j + 2,hj=>simp at hj
def ColRet (C:Col) (w:World) (e:Ending) (w':World):Prop:=∃ (Pa:Option Addr) (Pm Pc:Nat) (Qa:Option Addr) (Qm Qc:Nat) (Va:Option Addr) (Vm Vc:Nat),e = .returned (.tuple #[.agg #[.int .i64 C.id,.slice Pa Pm Pc,.slice Qa Qm Qc,.slice Va Vm Vc],.nilIface]) ∧ CutOwn w.heap.size w' (.agg #[.int .i64 C.id,.slice Pa Pm Pc,.slice Qa Qm Qc,.slice Va Vm Vc]) C ∧ Below w.heap.size w w'
theorem join_two (f:Lf) (A B C:Col) (vf v:Value) (w:World) (adr:Nat → Addr) (hE:ErrsAt w adr [2,3,4]) (hf:IsLf w vf f) (hl:IsCols w v [A,B]) (fo:f.Ok) (ao:A.Ok) (bo:B.Ok) (ha:colErr f A false = .nil) (hb:colErr f B false = .nil) (hj:joinC f.id [A,B] = C) (hlen:A.rep.length + B.rep.length ≤ 20000) :
  Calls Tryd.prog 9 #[vf,v] w (ColRet C w):=by
 have hfl:([A,B].flatMap Col.rep).length = A.rep.length + B.rep.length:=by simp
 refine (join_all f [A,B] vf v w adr hE hf hl fo (fun c hc=>by rcases List.mem_cons.1 hc with rfl | hc;exact ao;rw [List.mem_singleton.1 hc];exact bo) (fun c hc=>by rcases List.mem_cons.1 hc with rfl | hc;exact ha;rw [List.mem_singleton.1 hc];exact hb) (by simp) (by omega)).mono fun e w' ⟨h,hbl⟩=>?_
 rcases h with ⟨_,u,rfl,⟨p,q,d,rfl,o1,o2,o3⟩,_⟩ | ⟨h,_⟩
 ·rw [hj] at o1 o2 o3 ⊢
  obtain ⟨m1,b1,c1,e1⟩:=own_capS o1
  obtain ⟨m2,b2,c2,e2⟩:=own_capS o2
  obtain ⟨m3,b3,c3,e3⟩:=own_capS o3
  subst e1 e2 e3
  exact ⟨m1,b1,c1,m2,b2,c2,m3,b3,c3,rfl,⟨_,_,_,rfl,o1,o2,o3⟩,hbl⟩
 ·omega
theorem part_two (f:Lf) (c:Col) (m n x0 x1:Nat) (vf vc:Value) (w:World) (adr:Nat → Addr) (hE:ErrsAt w adr [3,4]) (hf:IsLf w vf f) (hc:IsCol w vc c) (hroom:RoomCol vc) (fo:f.Ok) (co:c.Ok) (hG:colErr f c false = .nil) (hl:c.rep.length ≤ 100000)
  (hmn:m ≤ n) (hm:(marksOf c.rep)[m]? = some x0) (hn:(marksOf c.rep)[n]? = some x1) (h01:x0 ≤ x1) (h1l:x1 ≤ c.rep.length) :
  Calls Tryd.prog 24 #[vf,vc,.int .i64 (m:Nat),.int .i64 (n:Nat)] w (ColRet (cutC f c x0 x1) w):=by
 refine (part_ok f c m n x0 x1 vf vc w adr hE hf hc hroom fo co hG hl hmn hm hn h01 h1l).mono fun e w' ⟨P,Q,V,ue,he,⟨p,q,d,e0,o1,o2,o3⟩,hr,hb⟩=>?_
 simp only [Value.agg.injEq,Array.mk.injEq,List.cons.injEq,and_true,true_and] at e0
 obtain ⟨rfl,rfl,rfl⟩:=e0
 obtain ⟨m1,b1,c1,e1⟩:=own_capS o1
 obtain ⟨m2,b2,c2,e2⟩:=own_capS o2
 obtain ⟨m3,b3,c3,e3⟩:=own_capS o3
 subst e1 e2 e3
 have hue:ue = .nilIface:=hr
 subst hue
 exact ⟨m1,b1,c1,m2,b2,c2,m3,b3,c3,he,⟨_,_,_,rfl,o1,o2,o3⟩,hb⟩
theorem CutOwn.belowS {B:Nat} {w w':World} {u:Value} {c:Col} (h:CutOwn B w u c) (hb:Below w.heap.size w w'):CutOwn B w' u c:=by
 obtain ⟨p,q,d,e,h1,h2,h3⟩:=h
 exact ⟨p,q,d,e,own_blw h1 hb,own_blw h2 hb,own_blw h3 hb⟩
def VarAt (w0 wx:World) (gj:Nat) (C:Col) (Pa:Option Addr) (Pm Pc:Nat) (Qa:Option Addr) (Qm Qc:Nat) (Va:Option Addr) (Vm Vc:Nat):Prop :=
 wx.heap[gj]? = some (.cells #[.int .i64 C.id,.slice Pa Pm Pc,.slice Qa Qm Qc,.slice Va Vm Vc] 32 (0,0)) ∧ IsCol wx (.agg #[.int .i64 C.id,.slice Pa Pm Pc,.slice Qa Qm Qc,.slice Va Vm Vc]) C ∧ Below w0.heap.size w0 wx ∧ w0.heap.size ≤ gj
theorem VarAt.below {w0 wx w':World} {gj:Nat} {C:Col} {Pa:Option Addr} {Pm Pc:Nat} {Qa:Option Addr} {Qm Qc:Nat} {Va:Option Addr} {Vm Vc:Nat} (h:VarAt w0 wx gj C Pa Pm Pc Qa Qm Qc Va Vm Vc) (hb:Below wx.heap.size wx w'):VarAt w0 w' gj C Pa Pm Pc Qa Qm Qc Va Vm Vc :=
 ⟨row_keep hb h.1,h.2.1.below hb (Nat.le_refl _),h.2.2.1.trans (hb.mono h.2.2.1.size),h.2.2.2⟩
theorem VarAt.store {w0 wx w9:World} {gj B:Nat} {C:Col} {cs:Array Value} {Pa:Option Addr} {Pm Pc:Nat} {Qa:Option Addr} {Qm Qc:Nat} {Va:Option Addr} {Vm Vc:Nat} (h:CutOwn B wx (.agg #[.int .i64 C.id,.slice Pa Pm Pc,.slice Qa Qm Qc,.slice Va Vm Vc]) C) (hr:wx.heap[gj]? = some (.cells cs 32 (0,0)))
  (r9:w9.heap[gj]? = some (.cells #[.int .i64 C.id,.slice Pa Pm Pc,.slice Qa Qm Qc,.slice Va Vm Vc] 32 (0,0))) (ho:∀ i,i ≠ gj → w9.heap[i]? = wx.heap[i]?) (hb:Below gj wx w9) (hx:Below w0.heap.size w0 wx) (hg:w0.heap.size ≤ gj):VarAt w0 w9 gj C Pa Pm Pc Qa Qm Qc Va Vm Vc :=
 ⟨r9,(h.off hr ho).isCol,hx.trans (hb.mono hg),hg⟩
theorem shCols_at {n:Nd} {l:List Dt} {k:Nat} (h:k < (leavesN n).length):(shCols n l)[k]? = some (shCol n l k):=by
 unfold shCols
 rw [List.getElem?_map,List.getElem?_range h];rfl
theorem shredRet_form {adr:Nat → Addr} {G:GErr} {cols:List Col} {w w':World} {e:Ending} (h:ShredRet adr G cols w e w'):Below w.heap.size w w' ∧ ∃ (av:Option Addr) (mv cv:Nat) (ue:Value),e = .returned (.tuple #[.slice av mv cv,ue]) ∧
  ((G = .nil ∧ ue = .nilIface ∧ mv = cols.length ∧ IsCols w' (.slice av mv cv) cols ∧ RoomAt w' (.slice av mv cv) cols.length) ∨ (G ≠ .nil ∧ ∃ T p,ue = .iface T p)):=by
 obtain ⟨hb,h⟩:=h
 refine ⟨hb,?_⟩
 rcases h with ⟨hg,v,rfl,hc,hr⟩ | ⟨hg,u,rfl,her⟩
 ·obtain ⟨ad,cap,rfl⟩:=hc.form
  exact ⟨_,_,_,_,rfl,.inl ⟨hg,rfl,rfl,hc,hr⟩⟩
 ·exact ⟨none,0,0,u,rfl,.inr ⟨hg,err_if her hg⟩⟩
theorem room_col {p q d i:Value} (hp:roomV p) (hq:roomV q):RoomCol (.agg #[i,p,q,d]):=by
 intro i' a b d' e
 simp only [Value.agg.injEq,Array.mk.injEq,List.cons.injEq,and_true] at e
 obtain ⟨_,rfl,rfl,_⟩:=e
 exact ⟨hp,hq⟩
theorem eV_zero (adr:Nat → Addr):eV adr 0 = .nilIface:=rfl
theorem marks_le' {l:List Int} {m n x0 x1:Nat} (hm:(marksOf l)[m]? = some x0) (hn:(marksOf l)[n]? = some x1) (h:m ≤ n):x0 ≤ x1 ∧ x1 ≤ l.length:=by
 obtain ⟨h1,h2⟩:=marksOf_at hm
 obtain ⟨k1,k2⟩:=marksOf_at hn
 refine ⟨?_,k1⟩
 rcases Nat.lt_or_ge x1 l.length with hl | hl
 ·have:=(k2 x1 hl).2 (Nat.le_refl _)
  exact (h2 x1 hl).1 (by omega)
 ·omega
end Go.Proofs.YtkmhmnffbgedgaaDoor
/- The step that makes a list of two columns. -/
namespace Go.Proofs.YtkmhmnffbgedgaaDoor
set_option linter.unusedVariables false
set_option linter.unusedSimpArgs false
open Go Go.RowKit Go.ChangeShapes
theorem run_cols2 (a0 a1 a2 a3 b0 b1 b2 b3:Value) (w:World):(Instr.buildSlice 25 2 #[(0,.agg #[a0,a1,a2,a3]),(1,.agg #[b0,b1,b2,b3])]).run Tryd.prog w = .ok (.slice (some ⟨w.heap.size,0,none⟩) 2 2) (w.alloc (.cells #[a0,a1,a2,a3,b0,b1,b2,b3] 32)):=by
 kernel_rfl
theorem wp_cols2 {op:Oper} {a:Act} {w:World} {K:Act → World → Prop} {Q:Exit → Act → World → Prop} (x y:Operand) (ho:op.op = .buildSlice 25 2 #[(0,x),(1,y)]) (a0 a1 a2 a3 b0 b1 b2 b3:Value) (hx:a.eval x = .agg #[a0,a1,a2,a3]) (hy:a.eval y = .agg #[b0,b1,b2,b3])
  (h:K (a.put op.dst (.slice (some ⟨w.heap.size,0,none⟩) 2 2)) (w.alloc (.cells #[a0,a1,a2,a3,b0,b1,b2,b3] 32))):op.wp Tryd.prog a w K Q:=by
 have e:(#[(0,x),(1,y)]:Array (Nat × Operand)).map (fun (i,z)=>(i,a.eval z)) = #[(0,.agg #[a0,a1,a2,a3]),(1,.agg #[b0,b1,b2,b3])]:=by
  simp only [List.map_toArray,List.map_cons,List.map_nil,hx,hy]
 unfold Oper.wp execOp
 simp only [ho]
 show _
 simp only [List.map_toArray,List.map_cons,List.map_nil,hx,hy,Sem.run_bind,Sem.run_pure,Result.andThen_ok,run_cols2]
 exact h
end Go.Proofs.YtkmhmnffbgedgaaDoor
