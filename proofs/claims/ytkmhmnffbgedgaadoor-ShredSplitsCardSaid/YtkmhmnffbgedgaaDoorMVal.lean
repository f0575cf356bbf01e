/- Merged texts: Vals, EncW1, OkB, EncV, IsVal, IsV2, ColS. -/
import Derived.Test.YtkmhmnffbgedgaaDoorMPlain
import Derived.Test.YtkmhmnffbgedgaaDoorMWire
import Derived.Laws.Rows
import Derived.Deep.WholeRow
import Derived.Lib.Hide
import Derived.Deep.QuietTactic
import Derived.BigQuiet
/- Values in memory: a slice of them that came in, or of the call's own. -/
namespace Go.Proofs.YtkmhmnffbgedgaaDoor
set_option maxHeartbeats 1000000
set_option linter.unusedVariables false
open Go Go.RowKit Go.ChangeShapes
def valCells (x:Val):List Value:=[.int .i64 x.k,.int .i64 x.n,.string x.s]
def ValAt (w:World) (b o:Nat) (x:Val):Prop :=
 w.cell? ⟨b,o,none⟩ = some (.int .i64 x.k) ∧ w.cell? ⟨b,o + 1,none⟩ = some (.int .i64 x.n) ∧ w.cell? ⟨b,o + 2,none⟩ = some (.string x.s)
def IsVals (w:World) (v:Value) (l:List Val):Prop :=
 (l = [] ∧ ∃ ad cap,v = .slice ad 0 cap) ∨ ∃ b off cap,v = .slice (some ⟨b,off,none⟩) l.length cap ∧ b < w.heap.size ∧ ∀ (j:Nat) (x:Val),l[j]? = some x → ValAt w b (off + j * 3) x
theorem ValAt.below {w w':World} {b o:Nat} {x:Val} {B:Nat} (h:ValAt w b o x) (hb:Below B w w') (hB:b < B):ValAt w' b o x :=
 ⟨(hb.cell (p:=⟨b,o,none⟩) hB).trans h.1,(hb.cell (p:=⟨b,o + 1,none⟩) hB).trans h.2.1,(hb.cell (p:=⟨b,o + 2,none⟩) hB).trans h.2.2⟩
theorem IsVals.below {w w':World} {v:Value} {l:List Val} {B:Nat} (h:IsVals w v l) (hb:Below B w w') (hB:w.heap.size ≤ B):IsVals w' v l:=by
 rcases h with h | ⟨b,off,cap,h1,h2,h3⟩
 ·exact .inl h
 ·exact .inr ⟨b,off,cap,h1,Nat.lt_of_lt_of_le h2 hb.size,fun j x hj=>(h3 j x hj).below hb (by omega)⟩
theorem IsVals.form {w:World} {v:Value} {l:List Val} (h:IsVals w v l):∃ ad cap,v = .slice ad l.length cap:=by
 rcases h with ⟨rfl,ad,cap,rfl⟩ | ⟨b,off,cap,rfl,_⟩
 ·exact ⟨ad,cap,rfl⟩
 ·exact ⟨_,cap,rfl⟩
theorem IsVals.at {w:World} {ad:Option Addr} {n cap:Nat} {l:List Val} (h:IsVals w (.slice ad n cap) l) (hl:0 < l.length) :
  ∃ b off,ad = some ⟨b,off,none⟩ ∧ n = l.length ∧ b < w.heap.size ∧ ∀ (j:Nat) (x:Val),l[j]? = some x → ValAt w b (off + j * 3) x:=by
 rcases h with ⟨rfl,_⟩ | ⟨b,off,cap',hv,h2,h3⟩
 ·simp at hl
 ·injection hv with e1 e2 e3
  exact ⟨b,off,e1,e2,h2,h3⟩
theorem flat_at (l:List Val):∀ (j:Nat) (x:Val),l[j]? = some x → (l.flatMap valCells)[j * 3]? = some (.int .i64 x.k) ∧ (l.flatMap valCells)[j * 3 + 1]? = some (.int .i64 x.n) ∧ (l.flatMap valCells)[j * 3 + 2]? = some (.string x.s):=by
 induction l with
 | nil=>intro j x h;simp at h
 | cons a l ih =>
  intro j x h
  cases j with
  | zero=>simp at h;subst h;simp [valCells]
  | succ j =>
   have:=ih j x (by simpa using h)
   rw [List.flatMap_cons]
   have e:(valCells a).length = 3:=rfl
   refine ⟨?_,?_,?_⟩
   ·rw [List.getElem?_append_right (by rw [e];omega),e,show (j + 1) * 3 - 3 = j * 3 by omega];exact this.1
   ·rw [List.getElem?_append_right (by rw [e];omega),e,show (j + 1) * 3 + 1 - 3 = j * 3 + 1 by omega];exact this.2.1
   ·rw [List.getElem?_append_right (by rw [e];omega),e,show (j + 1) * 3 + 2 - 3 = j * 3 + 2 by omega];exact this.2.2
theorem flat_len (l:List Val):(l.flatMap valCells).length = l.length * 3:=by
 induction l with
 | nil=>rfl
 | cons a l ih=>rw [List.flatMap_cons,List.length_append,ih,List.length_cons];show 3 + _ = _;omega
theorem IsVals.of_own {w:World} {B:Nat} {e:TypeId} {v:Value} {l:List Val} (h:w.ownsRow B e 3 v l.length (l.flatMap valCells)):IsVals w v l:=by
 rcases h.2 with ⟨rfl,h0⟩ | ⟨g,cap,cur,rfl,hB,hg,_⟩
 ·exact .inl ⟨List.eq_nil_of_length_eq_zero h0,none,0,rfl⟩
 ·refine .inr ⟨g,0,cap,rfl,(Array.getElem?_eq_some_iff.1 hg).1,fun j x hj=>?_⟩
  have hjl:=(List.getElem?_eq_some_iff.1 hj).1
  obtain ⟨f1,f2,f3⟩:=flat_at l j x hj
  have hc:=fun q (hq:q < l.length * 3)=>h.cellAt q hq
  refine ⟨?_,?_,?_⟩
  ·rw [Nat.zero_add,hc _ (by omega),f1]
  ·rw [Nat.zero_add,hc _ (by omega),f2]
  ·rw [Nat.zero_add,hc _ (by omega),f3]
def valA (x:Val):Array Value:=#[.int .i64 x.k,.int .i64 x.n,.string x.s]
theorem ValAt.cells {w:World} {b o:Nat} {x:Val} (h:ValAt w b o x):∀ j v,(valA x)[j]? = some v → w.cell? ⟨b,o + j,none⟩ = some v:=by
 intro j v hj
 match j,hj with
 | 0,hj=>simp [valA] at hj;subst hj;exact h.1
 | 1,hj=>simp [valA] at hj;subst hj;exact h.2.1
 | 2,hj=>simp [valA] at hj;subst hj;exact h.2.2
 | j + 3,hj=>simp [valA] at hj
theorem valA_one (x:Val):(valA x).all (·.oneCell') = true:=by simp [valA,Value.oneCell']
theorem val_size:(Tryd.prog.info? 61).map (·.size) = some 3:=by kernel_rfl
theorem val_zero:(Tryd.prog.info? 61).map (·.zero) = some (some (.agg #[.int .i64 0,.int .i64 0,.string ByteArray.empty])):=by kernel_rfl
end Go.Proofs.YtkmhmnffbgedgaaDoor
/- The walks of enc's OK, known, size, key, Less. -/
namespace Go.Proofs.YtkmhmnffbgedgaaDoor
set_option maxHeartbeats 1000000
set_option linter.unusedVariables false
open Go Go.RowKit Go.ChangeShapes
structure OkP (kind:Int) (x:Val):Prop where
 k:x.k = kind
 text:kind = 4 → x.n = 0 ∧ x.s.size ≤ 100
 num:kind ≠ 4 → x.s.size = 0
 bool:kind = 1 → 0 ≤ x.n ∧ x.n ≤ 1
 int:kind = 2 → -2147483648 ≤ x.n ∧ x.n ≤ 2147483647
theorem empty_beq (s:ByteArray):(s.toList == []) = decide (s.size = 0):=by
 rw [ByteArray.toList_eq]
 cases s with
 | mk a =>
  show (a.toList == []) = decide (a.size = 0)
  rw [Bool.eq_iff_iff,beq_iff_eq,decide_eq_true_iff]
  constructor
  ·intro h;rw [← Array.length_toList,h];rfl
  ·intro h;exact List.eq_nil_of_length_eq_zero (by rw [Array.length_toList];exact h)
theorem empty_beq' (s:ByteArray):s.toList.isEmpty = decide (s.size = 0):=by
 rw [← empty_beq]
 cases s.toList <;> rfl
set_option maxRecDepth 100000 in
theorem ok_yes (kind:Int) (x:Val) (hx:x.Ok) (w:World) (h:OkP kind x) :
  Calls Tryd.prog 45 #[.int .i64 kind,.agg (valA x)] w fun e w'=>e = .returned (.bool true) ∧ Below w.heap.size w w':=by
 obtain ⟨k,n,s⟩:=x
 obtain ⟨k0,k1,n0,n1,s1⟩:=hx
 obtain ⟨hk,h4,hn4,h1,h2⟩:=h
 simp only at hk h4 hn4 h1 h2 k0 k1 n0 n1 s1
 subst hk
 have hsz:s.toList = [] ↔ s.size = 0:=by have:=empty_beq s;rw [Bool.eq_iff_iff,beq_iff_eq,decide_eq_true_iff] at this;exact this
 unfold maxLen at s1
 unfold valA
 by_cases c4:k = 4
 ·obtain ⟨rfl,hs⟩:=h4 c4
  subst c4
  clear hn4 h1 h2 h4 hsz
  go_enter Tryd.func45,Tryd.ntmps45
  go_wp2_with fail
  go_ret
  exact ⟨ret_of (by simp;omega),(Below.refl _ _).alloc (Nat.le_refl _) _⟩
 ·have hs0:=hn4 c4
  have he:=empty_list hs0
  subst he
  clear hs0 hn4 h4 hsz s1
  by_cases c1:k = 1
  ·obtain ⟨a1,a2⟩:=h1 c1
   subst c1
   have hd:n / 2 = 0:=by omega
   clear h1 h2
   go_enter Tryd.func45,Tryd.ntmps45
   go_wp2_with fail
   go_ret
   exact ⟨ret_of (by simp),(Below.refl _ _).alloc (Nat.le_refl _) _⟩
  ·by_cases c2:k = 2
   ·obtain ⟨a1,a2⟩:=h2 c2
    subst c2
    have hd:IntKind.i32.wrap n = n:=by rw [IntKind.wrap_i32];omega
    clear h1 h2
    go_enter Tryd.func45,Tryd.ntmps45
    go_wp2_with fail
    go_ret
    exact ⟨ret_of (by simp),(Below.refl _ _).alloc (Nat.le_refl _) _⟩
   ·clear h1 h2
    go_enter Tryd.func45,Tryd.ntmps45
    go_wp2_with fail
    go_ret
    exact ⟨ret_of (by simp),(Below.refl _ _).alloc (Nat.le_refl _) _⟩
set_option maxRecDepth 100000 in
theorem ok_no (kind:Int) (x:Val) (hx:x.Ok) (w:World) (h:¬ OkP kind x) :
  Calls Tryd.prog 45 #[.int .i64 kind,.agg (valA x)] w fun e w'=>e = .returned (.bool false) ∧ Below w.heap.size w w':=by
 obtain ⟨k,n,s⟩:=x
 obtain ⟨k0,k1,n0,n1,s1⟩:=hx
 simp only at k0 k1 n0 n1 s1
 have hsz:s.toList = [] ↔ s.size = 0:=by have:=empty_beq s;rw [Bool.eq_iff_iff,beq_iff_eq,decide_eq_true_iff] at this;exact this
 have hem:=empty_beq s
 have hem':=empty_beq' s
 unfold maxLen at s1
 unfold valA
 by_cases hk:k = kind
 ·subst hk
  by_cases c4:k = 4
  ·subst c4
   have hh:¬ n = 0 ∨ 100 < s.size:=by
    by_cases a:n = 0
    ·by_cases b:100 < s.size
     ·exact .inr b
     ·exact absurd ⟨rfl,fun _=>⟨a,by show s.size ≤ 100;omega⟩,fun c=>absurd rfl c,by simp,by simp⟩ h
    ·exact .inl a
   clear h hsz hem hem'
   by_cases hn:n = 0
   ·have hb:(n == 0) = true:=by simpa using hn
    have hs:decide ((s.size:Int) ≤ 100) = false:=by simp;omega
    clear hh hn
    go_enter Tryd.func45,Tryd.ntmps45
    go_wp2_with fail
    go_ret
    exact ⟨ret_of (by simp),(Below.refl _ _).alloc (Nat.le_refl _) _⟩
   ·have hb:(n == 0) = false:=by simpa using hn
    clear hh hn
    go_enter Tryd.func45,Tryd.ntmps45
    go_wp2_with fail
    go_ret
    exact ⟨ret_of (by simp),(Below.refl _ _).alloc (Nat.le_refl _) _⟩
  ·by_cases hb1:k = 1 ∧ ¬ (0 ≤ n ∧ n ≤ 1)
   ·obtain ⟨rfl,hr⟩:=hb1
    have hd:(n / 2 == 0) = false:=by rw [beq_eq_false_iff_ne];omega
    have hd':¬ n / 2 = 0:=by omega
    clear h hsz hem hem' hr c4
    go_enter Tryd.func45,Tryd.ntmps45
    go_wp2_with fail
    go_ret
    exact ⟨ret_of (by simp),(Below.refl _ _).alloc (Nat.le_refl _) _⟩
   ·by_cases hb2:k = 2 ∧ ¬ (-2147483648 ≤ n ∧ n ≤ 2147483647)
    ·obtain ⟨rfl,hr⟩:=hb2
     have hd:(n != wrap64 (wrap32 n)) = true:=by unfold wrap64 wrap32;rw [bne_iff_ne];omega
     clear h hsz hem hem' hr c4 hb1
     go_enter Tryd.func45,Tryd.ntmps45
     go_wp2_with fail
     go_ret
     exact ⟨ret_of (by simp),(Below.refl _ _).alloc (Nat.le_refl _) _⟩
    ·have hs0:¬ s.size = 0:=fun hs=>h ⟨rfl,fun c=>absurd c c4,fun _=>hs,fun c=>by
      simp only at c ⊢;omega,fun c=>by simp only at c ⊢;omega⟩
     have e1:s.toList.isEmpty = false:=by rw [hem'];simpa using hs0
     have e2:¬ s.toList = []:=by rw [hsz];exact hs0
     clear h hsz hem hem' hs0
     by_cases c1:k = 1
     ·subst c1
      have hd:n / 2 = 0:=by omega
      clear hb1 hb2 c4
      go_enter Tryd.func45,Tryd.ntmps45
      go_wp2_with fail
      go_ret
      exact ⟨ret_of (by simp),(Below.refl _ _).alloc (Nat.le_refl _) _⟩
     ·by_cases c2:k = 2
      ·subst c2
       have hd:IntKind.i32.wrap n = n:=by rw [IntKind.wrap_i32];omega
       clear hb1 hb2 c4
       go_enter Tryd.func45,Tryd.ntmps45
       go_wp2_with fail
       go_ret
       exact ⟨ret_of (by simp),(Below.refl _ _).alloc (Nat.le_refl _) _⟩
      ·clear hb1 hb2
       go_enter Tryd.func45,Tryd.ntmps45
       go_wp2_with fail
       go_ret
       exact ⟨ret_of (by simp),(Below.refl _ _).alloc (Nat.le_refl _) _⟩
 ·have hk':(k == kind) = false:=by simpa using hk
  clear h hsz hem hem'
  go_enter Tryd.func45,Tryd.ntmps45
  go_wp2_with fail
  go_ret
  exact ⟨ret_of (by simp),(Below.refl _ _).alloc (Nat.le_refl _) _⟩
end Go.Proofs.YtkmhmnffbgedgaaDoor
/- OK's answer, plain. -/
namespace Go.Proofs.YtkmhmnffbgedgaaDoor
set_option maxHeartbeats 1000000
open Go
def okB (kind:Int) (x:Val):Bool :=
 decide (x.k = kind) && (if kind = 4 then decide (x.n = 0) && decide (x.s.size ≤ 100) else decide (x.s.size = 0) && (!decide (kind = 1) || (decide (0 ≤ x.n) && decide (x.n ≤ 1))) && (!decide (kind = 2) || (decide (-2147483648 ≤ x.n) && decide (x.n ≤ 2147483647))))
theorem okB_iff (kind:Int) (x:Val):okB kind x = true ↔ OkP kind x:=by
 unfold okB
 constructor
 ·intro h
  rw [Bool.and_eq_true,decide_eq_true_eq] at h
  obtain ⟨hk,h⟩:=h
  by_cases c:kind = 4
  ·rw [if_pos c] at h
   simp only [Bool.and_eq_true,decide_eq_true_eq] at h
   exact ⟨hk,fun _=>h,fun d=>absurd c d,fun d=>by omega,fun d=>by omega⟩
  ·rw [if_neg c] at h
   simp only [Bool.and_eq_true,decide_eq_true_eq,Bool.or_eq_true,Bool.not_eq_true',decide_eq_false_iff_not] at h
   obtain ⟨⟨h1,h2⟩,h3⟩:=h
   exact ⟨hk,fun d=>absurd d c,fun _=>h1,fun d=>h2.resolve_left (fun e=>e d),fun d=>h3.resolve_left (fun e=>e d)⟩
 ·intro h
  rw [Bool.and_eq_true,decide_eq_true_eq]
  refine ⟨h.k,?_⟩
  by_cases c:kind = 4
  ·rw [if_pos c]
   simpa using h.text c
  ·rw [if_neg c]
   simp only [Bool.and_eq_true,decide_eq_true_eq,Bool.or_eq_true,Bool.not_eq_true',decide_eq_false_iff_not]
   refine ⟨⟨h.num c,?_⟩,?_⟩
   ·by_cases d:kind = 1
    ·exact .inr (h.bool d)
    ·exact .inl d
   ·by_cases d:kind = 2
    ·exact .inr (h.int d)
    ·exact .inl d
end Go.Proofs.YtkmhmnffbgedgaaDoor
/- Values: rows of them, their equality in the walk. -/
namespace Go.Proofs.YtkmhmnffbgedgaaDoor
set_option maxHeartbeats 1000000
set_option linter.unusedVariables false
open Go Go.RowKit Go.ChangeShapes
theorem flat_cell {w:World} {b:Nat}:∀ (l:List Val) (off:Nat),(∀ (j:Nat) (x:Val),l[j]? = some x → ValAt w b (off + j * 3) x) → ∀ (j:Nat) (u:Value),(l.flatMap valCells)[j]? = some u → w.cell? ⟨b,off + j,none⟩ = some u
 | [],_,_,j,u,h=>by simp at h
 | a :: l,off,h,j,u,hj=>by
  obtain ⟨h0,h1,h2⟩:=h 0 a rfl
  rw [Nat.zero_mul,Nat.add_zero] at h0 h1 h2
  rw [List.flatMap_cons] at hj
  match j,hj with
  | 0,hj=>simp [valCells] at hj;subst hj;exact h0
  | 1,hj=>simp [valCells] at hj;subst hj;exact h1
  | 2,hj=>simp [valCells] at hj;subst hj;exact h2
  | j + 3,hj =>
   rw [List.getElem?_append_right (by simp [valCells])] at hj
   have:=flat_cell l (off + 3) (fun q x hx=>by have:=h (q + 1) x hx;rwa [show off + 3 + q * 3 = off + (q + 1) * 3 by omega]) j u (by simpa [valCells] using hj)
   rwa [show off + (j + 3) = off + 3 + j by omega]
theorem flat_one (l:List Val):∀ u ∈ l.flatMap valCells,u.oneCell' = true:=by
 intro u hu
 obtain ⟨x,_,hx⟩:=List.mem_flatMap.1 hu
 simp only [valCells,List.mem_cons,List.not_mem_nil,or_false] at hx
 rcases hx with rfl | rfl | rfl <;> rfl
theorem val_info:∃ i,Tryd.prog.info? 61 = some i ∧ i.zero = some (.agg #[.int .i64 0,.int .i64 0,.string ByteArray.empty]) ∧ i.size = 3:=by
 have h1:=val_zero
 have h2:=val_size
 cases h:Tryd.prog.info? 61 with
 | none=>rw [h] at h1;cases h1
 | some i=>rw [h] at h1 h2;exact ⟨i,rfl,by simpa using h1,by simpa using h2⟩
theorem val_infoB:∃ i,Tryd.prog.info? 61 = some i ∧ i.zero = some (.agg #[.int .i64 0,.int .i64 0,.string ByteArray.empty]) ∧ i.size = 3 ∧ i.bytes = 32:=by
 have h:(Tryd.prog.info? 61).map (fun i=>(i.zero,i.size,i.bytes)) = some (some (.agg #[.int .i64 0,.int .i64 0,.string ByteArray.empty]),3,32):=by kernel_rfl
 exact info_parts h |>.imp fun i h=>⟨h.1,h.2.1,h.2.2.1,h.2.2.2⟩
def valEq (x y:Val):Bool:=decide (x.k = y.k) && (decide (x.n = y.n) && decide (x.s = y.s))
theorem valEq_iff (x y:Val):valEq x y = true ↔ x = y:=by
 unfold valEq
 cases x;cases y
 simp
def sameB:List Val → List Val → Bool
 | [],[]=>true
 | x :: a,y :: b=>valEq x y && sameB a b
 | _,_=>false
theorem sameB_iff:∀ a b,sameB a b = true ↔ a = b
 | [],[]=>by simp [sameB]
 | [],_ :: _=>by simp [sameB]
 | _ :: _,[]=>by simp [sameB]
 | x :: a,y :: b=>by simp [sameB,valEq_iff,sameB_iff a b]
theorem val_ifs (x y:Val) {α:Type} (p q:α):(if x.k = y.k then if x.n = y.n then if x.s.toList = y.s.toList then p else q else q else q) = if valEq x y = true then p else q:=by
 by_cases h:valEq x y = true
 ·rw [if_pos h]
  obtain rfl:=(valEq_iff x y).1 h
  simp
 ·rw [if_neg h]
  by_cases h1:x.k = y.k
  ·by_cases h2:x.n = y.n
   ·have h3:¬ x.s.toList = y.s.toList:=fun h3=>h (by unfold valEq;simp [h1,h2,toList_inj h3])
    rw [if_pos h1,if_pos h2,if_neg h3]
   ·rw [if_pos h1,if_neg h2]
  ·rw [if_neg h1]
theorem neq_val (x y:Val) (w:World):(binOp .neq 61 (.agg (valA x)) (.agg (valA y))).run Tryd.prog w = .ok (.bool (!valEq x y)) w:=by
 have hm:Tryd.prog.stoodInHeld 61 = false:=by kernel_rfl
 unfold valA
 simp [go_sem]
 rw [val_ifs]
 cases valEq x y <;> rfl
theorem valEq_take {a b:List Val} {k:Nat} {x y:Val} (ht:a.take k = b.take k) (hx:a[k]? = some x) (hy:b[k]? = some y) (h:valEq x y = true):a.take (k + 1) = b.take (k + 1):=by
 obtain rfl:=(valEq_iff x y).1 h
 rw [List.take_add_one,List.take_add_one,ht,hx,hy]
theorem sameB_false {a b:List Val} {k:Nat} {x y:Val} (hx:a[k]? = some x) (hy:b[k]? = some y) (h:valEq x y = false):sameB a b = false:=by
 cases hs:sameB a b with
 | false=>rfl
 | true =>
  obtain rfl:=(sameB_iff a b).1 hs
  rw [hx] at hy
  obtain rfl:=Option.some.inj hy
  rw [(valEq_iff x x).2 rfl] at h
  cases h
theorem loadV {w:World} {b o:Nat} {x:Val} (h:ValAt w b o x) (n:Nat):(loadVar 61 ⟨b,o,none⟩).run Tryd.prog (w.drewN n) = .ok (.agg (valA x)) (w.drewN n):=by
 obtain ⟨iv,hiv,hzv,hsv⟩:=val_info
 exact run_loadVar_cells (w.drewN n) b o 61 (valA x) _ h.cells Tryd.underlying61 rfl (by rw [hiv];simp [hsv,valA])
theorem wpQuiet_loadS {P:Program} {ops:Array Oper} {C:World → Prop} {Q:Act → Prop} {rest:List Oper} {a:Act} {o:Oper} (hg:o.guard = none) (ty:TypeId) (x:Operand) (ho:o.op = .load ty x)
  (ad:Addr) (hx:a.eval x = .pointer (some ad)) (v:Value) (h1:∀ w,C w → (loadVar ty ad).run P w = .ok v w) (h:wpQuiet P ops C Q rest (a.put o.dst v)):wpQuiet P ops C Q (o :: rest) a:=by
 unfold wpQuiet
 rw [if_pos (by simp [Region.wanted,hg])]
 refine ⟨v,fun w hw=>?_,h⟩
 unfold Oper.quietAt
 simp [execOp,ho,hx,Instr.loadAt,Instr.sureAddr,h1 w hw,Oper.quietUpon,Result.andThen]
theorem wpQuiet_binS {P:Program} {ops:Array Oper} {C:World → Prop} {Q:Act → Prop} {rest:List Oper} {a:Act} {o:Oper} (hg:o.guard = none) (b:BinOp) (t t':TypeId) (x y:Operand) (ho:o.op = .binOp b t x y t')
  (u v r:Value) (hx:a.eval x = u) (hy:a.eval y = v) (hgd:∀ w,(eqGuard b t x y u v).run P w = .ok () w) (h1:∀ w,(binOp b t u v).run P w = .ok r w) (h:wpQuiet P ops C Q rest (a.put o.dst r)):wpQuiet P ops C Q (o :: rest) a:=by
 unfold wpQuiet
 rw [if_pos (by simp [Region.wanted,hg])]
 refine ⟨r,fun w hw=>?_,h⟩
 unfold Oper.quietAt
 simp [execOp,ho,hx,hy,hgd w,h1 w,Oper.quietUpon,Sem.run_bind,Result.andThen]
theorem val_guard (op:BinOp) (x y:Operand) (u v:Val) (w:World):(eqGuard op 61 x y (.agg (valA u)) (.agg (valA v))).run Tryd.prog w = .ok () w:=run_eqGuard_agg w op _ x y _ _ (by kernel_rfl)
end Go.Proofs.YtkmhmnffbgedgaaDoor
/- The walks of the document's IsValue. -/
namespace Go.Proofs.YtkmhmnffbgedgaaDoor
set_option maxHeartbeats 1000000
set_option linter.unusedVariables false
open Go Go.RowKit Go.ChangeShapes
end Go.Proofs.YtkmhmnffbgedgaaDoor
/- The document's IsValue at any kind. -/
namespace Go.Proofs.YtkmhmnffbgedgaaDoor
set_option maxHeartbeats 1000000
set_option linter.unusedVariables false
open Go Go.RowKit Go.ChangeShapes
end Go.Proofs.YtkmhmnffbgedgaaDoor
/- Columns and leaves: what they are, and where they lie in memory. -/
namespace Go.Proofs.YtkmhmnffbgedgaaDoor
set_option maxHeartbeats 1000000
set_option linter.unusedVariables false
open Go Go.RowKit Go.ChangeShapes
structure Lf where
 id:Int
 kind:Int
 mr:Int
 md:Int
 path:List Int
structure Col where
 id:Int
 rep:List Int
 df:List Int
 vals:List Val
structure Lf.Ok (f:Lf):Prop where
 id0:-9223372036854775808 ≤ f.id
 id1:f.id < 9223372036854775808
 k0:-9223372036854775808 ≤ f.kind
 k1:f.kind < 9223372036854775808
 r0:-9223372036854775808 ≤ f.mr
 r1:f.mr < 9223372036854775808
 d0:-9223372036854775808 ≤ f.md
 d1:f.md < 9223372036854775808
 path:Fits f.path
structure Col.Ok (c:Col):Prop where
 id0:-9223372036854775808 ≤ c.id
 id1:c.id < 9223372036854775808
 rep:Fits c.rep
 df:Fits c.df
 vals:c.vals.length ≤ maxLen ∧ ∀ x ∈ c.vals,x.Ok
def lfA (f:Lf) (p:Value):Array Value:=#[.int .i64 f.id,.int .i64 f.kind,.int .i64 f.mr,.int .i64 f.md,p]
def colA (c:Col) (a b d:Value):Array Value:=#[.int .i64 c.id,a,b,d]
def IsLf (w:World) (v:Value) (f:Lf):Prop:=∃ p,v = .agg (lfA f p) ∧ IsInts w p f.path
def IsCol (w:World) (v:Value) (c:Col):Prop:=∃ a b d,v = .agg (colA c a b d) ∧ IsInts w a c.rep ∧ IsInts w b c.df ∧ IsVals w d c.vals
theorem IsLf.below {w w':World} {v:Value} {f:Lf} {B:Nat} (h:IsLf w v f) (hb:Below B w w') (hB:w.heap.size ≤ B):IsLf w' v f:=by
 obtain ⟨p,h1,h2⟩:=h
 exact ⟨p,h1,h2.below hb hB⟩
theorem IsCol.below {w w':World} {v:Value} {c:Col} {B:Nat} (h:IsCol w v c) (hb:Below B w w') (hB:w.heap.size ≤ B):IsCol w' v c:=by
 obtain ⟨a,b,d,h1,h2,h3,h4⟩:=h
 exact ⟨a,b,d,h1,h2.below hb hB,h3.below hb hB,h4.below hb hB⟩
end Go.Proofs.YtkmhmnffbgedgaaDoor
