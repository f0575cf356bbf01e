/- Merged texts: Vals, EncW1, EncW2, Build, EncW3, Enc2, Enc3, EncW4, BuildS, EncW5. -/
import Derived.Test.YtapiabmmfmfaeaaGreatDoorMPlain
import Derived.Test.YtapiabmmfmfaeaaGreatDoorMWire
import Derived.Laws.Rows
import Derived.Deep.WholeRow
import Derived.Deep.QuietTactic
import Derived.BigQuiet
import Derived.Test.YtapiabmmfmfaeaaGreatDoorMBits
import Derived.Lib.Builder
import Derived.Lib.AppendStr
import Derived.Lib.OthersKept
import Derived.Test.YtapiabmmfmfaeaaGreatDoorShelf
import Derived.StillTailTactics
import Derived.RegionTactic
import Derived.Test.YtapiabmmfmfaeaaGreatDoorMErr
import Derived.Lib.Hide
import Derived.Lib.UnsafeStr
/- Values in memory: a slice of them that came in, or of the call's own. -/
namespace Go.Proofs.YtapiabmmfmfaeaaGreatDoor
set_option maxHeartbeats 2000000
set_option linter.unusedVariables false
open Go Go.RowKit Go.ChangeShapes
def valCells (x:Val):List Value:=[.int .i64 x.k,.int .i64 x.n,.string x.s]
def ValAt (w:World) (b o:Nat) (x:Val):Prop :=
 w.cell? ⟨b,o,none⟩ = some (.int .i64 x.k) ∧ w.cell? ⟨b,o + 1,none⟩ = some (.int .i64 x.n) ∧ w.cell? ⟨b,o + 2,none⟩ = some (.string x.s)
def IsVals (w:World) (v:Value) (l:List Val):Prop :=
 (l = [] ∧ ∃ ad cap,v = .slice ad 0 cap) ∨ ∃ b off cap,v = .slice (some ⟨b,off,none⟩) l.length cap ∧ b < w.heap.size ∧ ∀ (j:Nat) (x:Val),l[j]? = some x → ValAt w b (off + j * 3) x
theorem ValAt.below {w w':World} {b o:Nat} {x:Val} {B:Nat} (h:ValAt w b o x) (hb:Below B w w') (hB:b < B):ValAt w' b o x :=
 ⟨(hb.cell (p:=⟨b,o,none⟩) hB).trans h.1,(hb.cell (p:=⟨b,o + 1,none⟩) hB).trans h.2.1,(hb.cell (p:=⟨b,o + 2,none⟩) hB).trans h.2.2⟩
theorem IsVals.below {w w':World} {v:Value} {l:List Val} {B:Nat} (h:IsVals w v l) (hb:Below B w w') (hB:w.heap.size ≤ B):IsVals w' v l:=by
 rcases h with h | ⟨b,off,cap,h1,h2,h3⟩
 ·exact .inl h
 ·exact .inr ⟨b,off,cap,h1,Nat.lt_of_lt_of_le h2 hb.size,fun j x hj=>(h3 j x hj).below hb (by omega)⟩
theorem IsVals.form {w:World} {v:Value} {l:List Val} (h:IsVals w v l):∃ ad cap,v = .slice ad l.length cap:=by
 rcases h with ⟨rfl,ad,cap,rfl⟩ | ⟨b,off,cap,rfl,_⟩
 ·exact ⟨ad,cap,rfl⟩
 ·exact ⟨_,cap,rfl⟩
theorem IsVals.at {w:World} {ad:Option Addr} {n cap:Nat} {l:List Val} (h:IsVals w (.slice ad n cap) l) (hl:0 < l.length) :
  ∃ b off,ad = some ⟨b,off,none⟩ ∧ n = l.length ∧ b < w.heap.size ∧ ∀ (j:Nat) (x:Val),l[j]? = some x → ValAt w b (off + j * 3) x:=by
 rcases h with ⟨rfl,_⟩ | ⟨b,off,cap',hv,h2,h3⟩
 ·simp at hl
 ·injection hv with e1 e2 e3
  exact ⟨b,off,e1,e2,h2,h3⟩
theorem flat_at (l:List Val):∀ (j:Nat) (x:Val),l[j]? = some x → (l.flatMap valCells)[j * 3]? = some (.int .i64 x.k) ∧ (l.flatMap valCells)[j * 3 + 1]? = some (.int .i64 x.n) ∧ (l.flatMap valCells)[j * 3 + 2]? = some (.string x.s):=by
 induction l with
 | nil=>intro j x h;simp at h
 | cons a l ih =>
  intro j x h
  cases j with
  | zero=>simp at h;subst h;simp [valCells]
  | succ j =>
   have:=ih j x (by simpa using h)
   rw [List.flatMap_cons]
   have e:(valCells a).length = 3:=rfl
   refine ⟨?_,?_,?_⟩
   ·rw [List.getElem?_append_right (by rw [e];omega),e,show (j + 1) * 3 - 3 = j * 3 by omega];exact this.1
   ·rw [List.getElem?_append_right (by rw [e];omega),e,show (j + 1) * 3 + 1 - 3 = j * 3 + 1 by omega];exact this.2.1
   ·rw [List.getElem?_append_right (by rw [e];omega),e,show (j + 1) * 3 + 2 - 3 = j * 3 + 2 by omega];exact this.2.2
theorem IsVals.of_own {w:World} {B:Nat} {e:TypeId} {v:Value} {l:List Val} (h:w.ownsRow B e 3 v l.length (l.flatMap valCells)):IsVals w v l:=by
 rcases h.2 with ⟨rfl,h0⟩ | ⟨g,cap,cur,rfl,hB,hg,_⟩
 ·exact .inl ⟨List.eq_nil_of_length_eq_zero h0,none,0,rfl⟩
 ·refine .inr ⟨g,0,cap,rfl,(Array.getElem?_eq_some_iff.1 hg).1,fun j x hj=>?_⟩
  have hjl:=(List.getElem?_eq_some_iff.1 hj).1
  obtain ⟨f1,f2,f3⟩:=flat_at l j x hj
  have hc:=fun q (hq:q < l.length * 3)=>h.cellAt q hq
  refine ⟨?_,?_,?_⟩
  ·rw [Nat.zero_add,hc _ (by omega),f1]
  ·rw [Nat.zero_add,hc _ (by omega),f2]
  ·rw [Nat.zero_add,hc _ (by omega),f3]
theorem run_loadVar_cells {P:Program} (w:World) (b f:Nat) (ty:TypeId) (cs:Array Value) (d:TypeDesc) (hc:∀ j v,cs[j]? = some v → w.cell? ⟨b,f + j,none⟩ = some v)
  (hu:P.underlying ty = some d) (hd:(match d with | .struct _ | .array _ _=>true | _=>false) = true) (hi:(P.info? ty).map (·.size) = some cs.size) :
  (loadVar ty ⟨b,f,none⟩).run P w = .ok (.agg cs) w:=by
 have hl:(loadCells ⟨b,f,none⟩ cs.toList.length).run P w = .ok cs.toList.toArray w :=
  run_loadCells_list (P:=P) w ⟨b,f,none⟩ cs.toList (fun j v hv=>by
   rw [Go.WideShapes.add_plain]
   exact hc j v (by simpa using hv))
 cases hq:P.info? ty with
 | none=>simp [hq] at hi
 | some i =>
  have hs:i.size = cs.size:=by simpa [hq] using hi
  have hagg:(isAgg ty).run P w = .ok true w:=by
   unfold isAgg
   rw [Sem.run_bind,run_underlying hu w]
   cases d <;> simp_all
  simp only [Array.length_toList,Array.toArray_toList] at hl
  simp [loadVar,Sem.run_bind,hagg,sizeOf,typeInfo,hq,hs,hl]
theorem wpList_load_cells {P:Program} {w:World} {ops:Array Oper} {rest:List Oper} {o:Oper} {a:Act} {Q:Exit → Act → World → Prop} (hgd:o.guard = none) (ty:TypeId) (x:Operand) (ho:o.op = .load ty x)
  (b f:Nat) (hx:a.eval x = .pointer (some ⟨b,f,none⟩)) (cs:Array Value) (d:TypeDesc) (hc:∀ j v,cs[j]? = some v → w.cell? ⟨b,f + j,none⟩ = some v)
  (hu:P.underlying ty = some d) (hd:(match d with | .struct _ | .array _ _=>true | _=>false) = true) (hi:(P.info? ty).map (·.size) = some cs.size)
  (h:wpList P ops Q rest (a.put o.dst (.agg cs)) w):wpList P ops Q (o :: rest) a w:=by
 refine wpList_plain hgd fun K hK=>?_
 unfold Oper.wp execOp
 simp only [ho,hx,Instr.loadAt,Instr.sureAddr,Sem.run_bind,Sem.run_pure,Result.andThen_ok,run_loadVar_cells w b f ty cs d hc hu hd hi]
 exact hK _ _ h
theorem wpList_store_new {P:Program} {w:World} {ops:Array Oper} {rest:List Oper} {o:Oper} {a:Act} {Q:Exit → Act → World → Prop} (hgd:o.guard = none) (hd:o.dst = none) (ty:TypeId) (x v:Operand) (ho:o.op = .store ty x v)
  (hx:a.eval x = .pointer (some ⟨w.heap.size,0,none⟩)) (old cells:Array Value) (hv:a.eval v = .agg cells)
  (hi:(P.info? ty).map (·.size) = some cells.size) (hs:old.size = cells.size) (h1:cells.all (·.oneCell') = true)
  (h:wpList P ops Q rest a (w.alloc (.cells cells ty))):wpList P ops Q (o :: rest) a (w.alloc (.cells old ty)):=by
 refine wpList_plain hgd fun K hK=>?_
 have hr:=run_storeVar_new (P:=P) w ty old cells hi hs h1
 unfold Oper.wp execOp
 simp [ho,hx,hv,Instr.storeAt,Instr.sureAddr,hr,Result.andThen,Oper.upon_skip,Act.put,hd]
 exact hK _ _ h
def valA (x:Val):Array Value:=#[.int .i64 x.k,.int .i64 x.n,.string x.s]
theorem ValAt.cells {w:World} {b o:Nat} {x:Val} (h:ValAt w b o x):∀ j v,(valA x)[j]? = some v → w.cell? ⟨b,o + j,none⟩ = some v:=by
 intro j v hj
 match j,hj with
 | 0,hj=>simp [valA] at hj;subst hj;exact h.1
 | 1,hj=>simp [valA] at hj;subst hj;exact h.2.1
 | 2,hj=>simp [valA] at hj;subst hj;exact h.2.2
 | j + 3,hj=>simp [valA] at hj
theorem valA_one (x:Val):(valA x).all (·.oneCell') = true:=by simp [valA,Value.oneCell']
theorem val_size:(Tryz.prog.info? 41).map (·.size) = some 3:=by kernel_rfl
theorem val_zero:(Tryz.prog.info? 41).map (·.zero) = some (some (.agg #[.int .i64 0,.int .i64 0,.string ByteArray.empty])):=by kernel_rfl
end Go.Proofs.YtapiabmmfmfaeaaGreatDoor
/- The walks of enc's OK, known, size, key, Less. -/
namespace Go.Proofs.YtapiabmmfmfaeaaGreatDoor
set_option maxHeartbeats 2000000
set_option linter.unusedVariables false
open Go Go.RowKit Go.ChangeShapes
structure OkP (kind:Int) (x:Val):Prop where
 k:x.k = kind
 text:kind = 4 → x.n = 0 ∧ x.s.size ≤ 100
 num:kind ≠ 4 → x.s.size = 0
 bool:kind = 1 → 0 ≤ x.n ∧ x.n ≤ 1
 int:kind = 2 → -2147483648 ≤ x.n ∧ x.n ≤ 2147483647
theorem empty_beq (s:ByteArray):(s.toList == []) = decide (s.size = 0):=by
 rw [ByteArray.toList_eq]
 cases s with
 | mk a =>
  show (a.toList == []) = decide (a.size = 0)
  rw [Bool.eq_iff_iff,beq_iff_eq,decide_eq_true_iff]
  constructor
  ·intro h;rw [← Array.length_toList,h];rfl
  ·intro h;exact List.eq_nil_of_length_eq_zero (by rw [Array.length_toList];exact h)
theorem empty_beq' (s:ByteArray):s.toList.isEmpty = decide (s.size = 0):=by
 rw [← empty_beq]
 cases s.toList <;> rfl
set_option maxRecDepth 100000 in
theorem ok_yes (kind:Int) (x:Val) (hx:x.Ok) (w:World) (h:OkP kind x) :
  Calls Tryz.prog 51 #[.int .i64 kind,.agg (valA x)] w fun e w'=>e = .returned (.bool true) ∧ Below w.heap.size w w':=by
 obtain ⟨k,n,s⟩:=x
 obtain ⟨k0,k1,n0,n1,s1⟩:=hx
 obtain ⟨hk,h4,hn4,h1,h2⟩:=h
 simp only at hk h4 hn4 h1 h2 k0 k1 n0 n1 s1
 subst hk
 have hsz:s.toList = [] ↔ s.size = 0:=by have:=empty_beq s;rw [Bool.eq_iff_iff,beq_iff_eq,decide_eq_true_iff] at this;exact this
 unfold maxLen at s1
 unfold valA
 by_cases c4:k = 4
 ·obtain ⟨rfl,hs⟩:=h4 c4
  subst c4
  clear hn4 h1 h2 h4 hsz
  go_enter Tryz.func51,Tryz.ntmps51
  go_wp2_with fail
  go_ret
  exact ⟨ret_of (by simp;omega),(Below.refl _ _).alloc (Nat.le_refl _) _⟩
 ·have hs0:=hn4 c4
  have he:=empty_list hs0
  subst he
  clear hs0 hn4 h4 hsz s1
  by_cases c1:k = 1
  ·obtain ⟨a1,a2⟩:=h1 c1
   subst c1
   have hd:n / 2 = 0:=by omega
   clear h1 h2
   go_enter Tryz.func51,Tryz.ntmps51
   go_wp2_with fail
   go_ret
   exact ⟨ret_of (by simp),(Below.refl _ _).alloc (Nat.le_refl _) _⟩
  ·by_cases c2:k = 2
   ·obtain ⟨a1,a2⟩:=h2 c2
    subst c2
    have hd:IntKind.i32.wrap n = n:=by rw [IntKind.wrap_i32];omega
    clear h1 h2
    go_enter Tryz.func51,Tryz.ntmps51
    go_wp2_with fail
    go_ret
    exact ⟨ret_of (by simp),(Below.refl _ _).alloc (Nat.le_refl _) _⟩
   ·clear h1 h2
    go_enter Tryz.func51,Tryz.ntmps51
    go_wp2_with fail
    go_ret
    exact ⟨ret_of (by simp),(Below.refl _ _).alloc (Nat.le_refl _) _⟩
set_option maxRecDepth 100000 in
theorem ok_no (kind:Int) (x:Val) (hx:x.Ok) (w:World) (h:¬ OkP kind x) :
  Calls Tryz.prog 51 #[.int .i64 kind,.agg (valA x)] w fun e w'=>e = .returned (.bool false) ∧ Below w.heap.size w w':=by
 obtain ⟨k,n,s⟩:=x
 obtain ⟨k0,k1,n0,n1,s1⟩:=hx
 simp only at k0 k1 n0 n1 s1
 have hsz:s.toList = [] ↔ s.size = 0:=by have:=empty_beq s;rw [Bool.eq_iff_iff,beq_iff_eq,decide_eq_true_iff] at this;exact this
 have hem:=empty_beq s
 have hem':=empty_beq' s
 unfold maxLen at s1
 unfold valA
 by_cases hk:k = kind
 ·subst hk
  by_cases c4:k = 4
  ·subst c4
   have hh:¬ n = 0 ∨ 100 < s.size:=by
    by_cases a:n = 0
    ·by_cases b:100 < s.size
     ·exact .inr b
     ·exact absurd ⟨rfl,fun _=>⟨a,by show s.size ≤ 100;omega⟩,fun c=>absurd rfl c,by simp,by simp⟩ h
    ·exact .inl a
   clear h hsz hem hem'
   by_cases hn:n = 0
   ·have hb:(n == 0) = true:=by simpa using hn
    have hs:decide ((s.size:Int) ≤ 100) = false:=by simp;omega
    clear hh hn
    go_enter Tryz.func51,Tryz.ntmps51
    go_wp2_with fail
    go_ret
    exact ⟨ret_of (by simp),(Below.refl _ _).alloc (Nat.le_refl _) _⟩
   ·have hb:(n == 0) = false:=by simpa using hn
    clear hh hn
    go_enter Tryz.func51,Tryz.ntmps51
    go_wp2_with fail
    go_ret
    exact ⟨ret_of (by simp),(Below.refl _ _).alloc (Nat.le_refl _) _⟩
  ·by_cases hb1:k = 1 ∧ ¬ (0 ≤ n ∧ n ≤ 1)
   ·obtain ⟨rfl,hr⟩:=hb1
    have hd:(n / 2 == 0) = false:=by rw [beq_eq_false_iff_ne];omega
    have hd':¬ n / 2 = 0:=by omega
    clear h hsz hem hem' hr c4
    go_enter Tryz.func51,Tryz.ntmps51
    go_wp2_with fail
    go_ret
    exact ⟨ret_of (by simp),(Below.refl _ _).alloc (Nat.le_refl _) _⟩
   ·by_cases hb2:k = 2 ∧ ¬ (-2147483648 ≤ n ∧ n ≤ 2147483647)
    ·obtain ⟨rfl,hr⟩:=hb2
     have hd:(n != wrap64 (wrap32 n)) = true:=by unfold wrap64 wrap32;rw [bne_iff_ne];omega
     clear h hsz hem hem' hr c4 hb1
     go_enter Tryz.func51,Tryz.ntmps51
     go_wp2_with fail
     go_ret
     exact ⟨ret_of (by simp),(Below.refl _ _).alloc (Nat.le_refl _) _⟩
    ·have hs0:¬ s.size = 0:=fun hs=>h ⟨rfl,fun c=>absurd c c4,fun _=>hs,fun c=>by
      simp only at c ⊢;omega,fun c=>by simp only at c ⊢;omega⟩
     have e1:s.toList.isEmpty = false:=by rw [hem'];simpa using hs0
     have e2:¬ s.toList = []:=by rw [hsz];exact hs0
     clear h hsz hem hem' hs0
     by_cases c1:k = 1
     ·subst c1
      have hd:n / 2 = 0:=by omega
      clear hb1 hb2 c4
      go_enter Tryz.func51,Tryz.ntmps51
      go_wp2_with fail
      go_ret
      exact ⟨ret_of (by simp),(Below.refl _ _).alloc (Nat.le_refl _) _⟩
     ·by_cases c2:k = 2
      ·subst c2
       have hd:IntKind.i32.wrap n = n:=by rw [IntKind.wrap_i32];omega
       clear hb1 hb2 c4
       go_enter Tryz.func51,Tryz.ntmps51
       go_wp2_with fail
       go_ret
       exact ⟨ret_of (by simp),(Below.refl _ _).alloc (Nat.le_refl _) _⟩
      ·clear hb1 hb2
       go_enter Tryz.func51,Tryz.ntmps51
       go_wp2_with fail
       go_ret
       exact ⟨ret_of (by simp),(Below.refl _ _).alloc (Nat.le_refl _) _⟩
 ·have hk':(k == kind) = false:=by simpa using hk
  clear h hsz hem hem'
  go_enter Tryz.func51,Tryz.ntmps51
  go_wp2_with fail
  go_ret
  exact ⟨ret_of (by simp),(Below.refl _ _).alloc (Nat.le_refl _) _⟩
theorem xor_low (r:Nat) (h:r < 9223372036854775808):(9223372036854775808 + r) ^^^ 9223372036854775807 = 9223372036854775808 + (9223372036854775807 - r):=by
 have e63:(9223372036854775808:Nat) = 2 ^ 63:=by decide
 have e1:(9223372036854775807:Nat) = 2 ^ 63 - 1:=by decide
 apply Nat.eq_of_testBit_eq
 intro i
 rw [Nat.testBit_xor,show 9223372036854775807 - r = 2 ^ 63 - (r + 1) by omega,e1,Nat.testBit_two_pow_sub_one,e63]
 have hy:2 ^ 63 - (r + 1) < 2 ^ 63:=by omega
 rcases Nat.lt_trichotomy i 63 with hi | hi | hi
 ·rw [Nat.testBit_two_pow_add_gt hi,Nat.testBit_two_pow_add_gt hi,Nat.testBit_two_pow_sub_succ (by omega)]
  simp [hi]
 ·subst hi
  rw [Nat.testBit_two_pow_add_eq,Nat.testBit_two_pow_add_eq,Nat.testBit_lt_two_pow hy,Nat.testBit_lt_two_pow (by omega:r < 2 ^ 63)]
  rfl
 ·have h64:(2:Nat) ^ 64 ≤ 2 ^ i:=Nat.pow_le_pow_right (by decide) hi
  have p64:(2:Nat) ^ 64 = 2 ^ 63 + 2 ^ 63:=by decide
  rw [Nat.testBit_lt_two_pow (by omega:2 ^ 63 + r < 2 ^ i),Nat.testBit_lt_two_pow (by omega:2 ^ 63 + (2 ^ 63 - (r + 1)) < 2 ^ i)]
  simp;omega
theorem key_neg (n:Int) (h0:-9223372036854775808 ≤ n) (h1:n < 0):bits .xor .i64 n 9223372036854775807 = -9223372036854775809 - n:=by
 show IntKind.i64.wrap ((BitVec.ofInt 64 n ^^^ BitVec.ofInt 64 9223372036854775807).toNat:Int) = _
 obtain ⟨r,hr⟩:∃ r:Nat,(n:Int) + 9223372036854775808 = (r:Int):=⟨(n + 9223372036854775808).toNat,by omega⟩
 have e1:(BitVec.ofInt 64 n).toNat = 9223372036854775808 + r:=by
  rw [BitVec.toNat_ofInt]
  omega
 have e2:(BitVec.ofInt 64 9223372036854775807).toNat = 9223372036854775807:=by decide
 rw [BitVec.toNat_xor,e1,e2,xor_low r (by omega),IntKind.wrap_i64]
 omega
set_option maxRecDepth 100000 in
theorem key_any (n:Int) (w:World) (h0:-9223372036854775808 ≤ n) (h1:n < 9223372036854775808) :
  Calls Tryz.prog 74 #[.int .i64 n] w fun e w'=>e = .returned (.int .i64 (keyOf n)) ∧ w' = w:=by
 by_cases hn:n < 0
 ·have hq:n / 9223372036854775808 = -1:=by omega
  have hk:=key_neg n h0 hn
  have hw:IntKind.u64.wrap (-1) / 2 = 9223372036854775807:=by decide +kernel
  have hko:keyOf n = -9223372036854775809 - n:=by unfold keyOf;rw [if_pos hn]
  rw [hko]
  clear hko
  go_enter Tryz.func74,Tryz.ntmps74
  go_wp2_with fail
  go_ret
  exact ⟨ret_of (by first | rfl | simp [hk]),rfl⟩
 ·have hq:n / 9223372036854775808 = 0:=by omega
  obtain ⟨m,rfl⟩:=Int.eq_ofNat_of_zero_le (show 0 ≤ n by omega)
  have hk:=xor_zero_i64 m (by omega)
  have hko:keyOf (m:Int) = (m:Int):=by unfold keyOf;rw [if_neg hn]
  rw [hko]
  clear hko
  go_enter Tryz.func74,Tryz.ntmps74
  go_wp2_with fail
  go_ret
  exact ⟨ret_of (by first | rfl | simp [hk]),rfl⟩
end Go.Proofs.YtapiabmmfmfaeaaGreatDoor
/- The walks of enc's Less, known, size and the document's LessOf, IsValue. -/
namespace Go.Proofs.YtapiabmmfmfaeaaGreatDoor
set_option maxHeartbeats 2000000
set_option linter.unusedVariables false
open Go Go.RowKit Go.ChangeShapes
set_option maxRecDepth 100000 in
theorem less_any (a b:Val) (ha:a.Ok) (hb:b.Ok) (w:World) :
  Calls Tryz.prog 43 #[.agg (valA a),.agg (valA b)] w fun e w'=>e = .returned (.bool (a.less b)) ∧ Below w.heap.size w w':=by
 obtain ⟨ak,an,as'⟩:=a
 obtain ⟨bk,bn,bs⟩:=b
 obtain ⟨k0,k1,n0,n1,s1⟩:=ha
 obtain ⟨k0',k1',n0',n1',s1'⟩:=hb
 simp only at k0 k1 n0 n1 s1 k0' k1' n0' n1' s1'
 have hb2:∀ u v,Below w.heap.size w ((w.alloc u).alloc v):=fun u v=>((Below.refl _ _).alloc (Nat.le_refl _) _).alloc (by simp) _
 unfold valA
 by_cases hk:ak = bk
 ·subst hk
  by_cases h4:ak = 4
  ·subst h4
   have hl:Val.less ⟨4,an,as'⟩ ⟨4,bn,bs⟩ = Go.Op.bytesLess as'.toList bs.toList:=by simp [Val.less]
   rw [hl]
   clear hl
   go_enter Tryz.func43,Tryz.ntmps43
   go_wp2_with fail
   go_ret
   exact ⟨rfl,hb2 _ _⟩
  ·by_cases h5:ak = 5
   ·subst h5
    have hl:Val.less ⟨5,an,as'⟩ ⟨5,bn,bs⟩ = decide (keyOf an < keyOf bn):=by simp [Val.less]
    rw [hl]
    clear hl
    go_enter Tryz.func43,Tryz.ntmps43
    go_wp2_with fail
    go_quiet ((go_at_call 74;exact Calls.quiet_of_same (key_any _ _ (by omega) (by omega))))
    go_wp2_with fail
    go_ret
    exact ⟨ret_of (by simp),below_drewN (hb2 _ _) _⟩
   ·have hl:Val.less ⟨ak,an,as'⟩ ⟨ak,bn,bs⟩ = decide (an < bn):=by simp [Val.less,h4,h5]
    rw [hl]
    clear hl
    go_enter Tryz.func43,Tryz.ntmps43
    go_wp2_with fail
    go_ret
    exact ⟨ret_of (by simp),hb2 _ _⟩
 ·have hl:Val.less ⟨ak,an,as'⟩ ⟨bk,bn,bs⟩ = decide (ak < bk):=by simp [Val.less,hk]
  rw [hl]
  have hkb:(ak == bk) = false:=by simpa using hk
  clear hl
  go_enter Tryz.func43,Tryz.ntmps43
  go_wp2_with fail
  go_ret
  exact ⟨ret_of (by simp),hb2 _ _⟩
set_option maxRecDepth 100000 in
theorem lessOf_any (a b:Val) (ha:a.Ok) (hb:b.Ok) (w:World) :
  Calls Tryz.prog 56 #[.agg (valA a),.agg (valA b)] w fun e w'=>e = .returned (.bool (a.less b)) ∧ Below w.heap.size w w':=by
 obtain ⟨ak,an,as'⟩:=a
 obtain ⟨bk,bn,bs⟩:=b
 obtain ⟨k0,k1,n0,n1,s1⟩:=ha
 obtain ⟨k0',k1',n0',n1',s1'⟩:=hb
 simp only at k0 k1 n0 n1 s1 k0' k1' n0' n1' s1'
 have hb2:∀ u v,Below w.heap.size w ((w.alloc u).alloc v):=fun u v=>((Below.refl _ _).alloc (Nat.le_refl _) _).alloc (by simp) _
 unfold valA
 by_cases hk:ak = bk
 ·subst hk
  by_cases h4:ak = 4
  ·subst h4
   have hl:Val.less ⟨4,an,as'⟩ ⟨4,bn,bs⟩ = Go.Op.bytesLess as'.toList bs.toList:=by simp [Val.less]
   rw [hl]
   clear hl
   go_enter Tryz.func56,Tryz.ntmps56
   go_wp2_with fail
   go_ret
   exact ⟨rfl,hb2 _ _⟩
  ·by_cases h5:ak = 5
   ·subst h5
    have hl:Val.less ⟨5,an,as'⟩ ⟨5,bn,bs⟩ = (if 0 ≤ an ∧ 0 ≤ bn then decide (an < bn) else if an < 0 ∧ bn < 0 then decide (bn < an) else decide (an < 0)):=by
     rw [← keyOf_lt an bn n0 n1 n0' n1'];simp [Val.less]
    rw [hl]
    clear hl
    by_cases p1:0 ≤ an
    ·by_cases p2:0 ≤ bn
     ·rw [if_pos ⟨p1,p2⟩]
      go_enter Tryz.func56,Tryz.ntmps56
      go_wp2_with fail
      go_ret
      exact ⟨ret_of (by simp),hb2 _ _⟩
     ·rw [if_neg (fun h=>p2 h.2),if_neg (fun h=>by omega),show decide (an < 0) = false by simp;omega]
      go_enter Tryz.func56,Tryz.ntmps56
      go_wp2_with fail
      go_ret
      exact ⟨ret_of (by simp;try omega),hb2 _ _⟩
    ·by_cases p2:0 ≤ bn
     ·rw [if_neg (fun h=>p1 h.1),if_neg (fun h=>by omega),show decide (an < 0) = true by simp;omega]
      go_enter Tryz.func56,Tryz.ntmps56
      go_wp2_with fail
      go_ret
      exact ⟨ret_of (by simp;try omega),hb2 _ _⟩
     ·rw [if_neg (fun h=>p1 h.1),if_pos ⟨by omega,by omega⟩]
      go_enter Tryz.func56,Tryz.ntmps56
      go_wp2_with fail
      go_ret
      exact ⟨ret_of (by simp),hb2 _ _⟩
   ·have hl:Val.less ⟨ak,an,as'⟩ ⟨ak,bn,bs⟩ = decide (an < bn):=by simp [Val.less,h4,h5]
    rw [hl]
    clear hl
    go_enter Tryz.func56,Tryz.ntmps56
    go_wp2_with fail
    go_ret
    exact ⟨ret_of (by simp),hb2 _ _⟩
 ·have hl:Val.less ⟨ak,an,as'⟩ ⟨bk,bn,bs⟩ = decide (ak < bk):=by simp [Val.less,hk]
  rw [hl]
  have hkb:(ak == bk) = false:=by simpa using hk
  clear hl
  go_enter Tryz.func56,Tryz.ntmps56
  go_wp2_with fail
  go_ret
  exact ⟨ret_of (by simp),hb2 _ _⟩
end Go.Proofs.YtapiabmmfmfaeaaGreatDoor
/- strings.Builder of a call's own: what is written stands behind what was there. -/
namespace Go.Proofs.YtapiabmmfmfaeaaGreatDoor
set_option maxHeartbeats 2000000
set_option linter.unusedVariables false
open Go Go.RowKit
theorem info_b8:(Tryz.prog.info? 5).map (fun i=>(i.zero,i.size,i.bytes)) = some (some (.int .u8 0),1,1):=by kernel_rfl
theorem info_builder:(Tryz.prog.info? 170).map (fun i=>i.size) = some 2:=by kernel_rfl
theorem lies_builder:liesAt Tryz.prog Tryz.prog.depth 170 (2 / Tryz.prog.cellsOf 170) 0 170 1 = true:=by kernel_rfl
def BuildAt (B b:Nat) (l:List UInt8) (w:World):Prop:=Lib.IsBuilder 170 5 B b (l.map byteV) w
theorem strCells_byteV (s:ByteArray):Lib.strCells s = s.data.toList.map byteV:=rfl
theorem BuildAt.fresh (w:World):BuildAt w.heap.size w.heap.size [] (w.alloc (.cells #[.pointer none,.slice none 0 0] 170)):=Lib.fresh_isBuilder _ _ w
theorem BuildAt.lt {B b:Nat} {l:List UInt8} {w:World} (h:BuildAt B b l w):b < w.heap.size:=by
 rcases h with h | h <;> exact h.lt
set_option maxRecDepth 100000 in
theorem copyCheck_used (b:Nat) (w:World) (h0:w.cell? ⟨b,0,none⟩ = some (.pointer (some ⟨b,0,none⟩))) :
  Calls Tryz.prog 122 #[.pointer (some ⟨b,0,none⟩)] w fun e w'=>e = .returned (.tuple #[]) ∧ w' = w:=by
 obtain ⟨j,hj,_⟩:=Option.map_eq_some_iff.1 info_builder
 go_enter Tryz.func122,Tryz.ntmps122
 go_wp2
 rw [Lib.run_neq_ptr_same w _ Tryz.underlying168 hj]
 go_wp2
 go_end0
 exact ⟨rfl,rfl⟩
set_option maxRecDepth 100000 in
theorem copyCheck_fresh (b:Nat) (w:World) (h0:w.cell? ⟨b,0,none⟩ = some (.pointer none)) (hsh:w.shape? b = some (170,2)) (hfz:w.frozen? ⟨b,0,none⟩ = false) :
  Calls Tryz.prog 122 #[.pointer (some ⟨b,0,none⟩)] w fun e w'=>e = .returned (.tuple #[]) ∧ w' = w.setCell ⟨b,0,none⟩ (.pointer (some ⟨b,0,none⟩)):=by
 obtain ⟨j,hj,hjs⟩:=Option.map_eq_some_iff.1 info_builder
 go_enter Tryz.func122,Tryz.ntmps122
 go_wp2
 rw [Lib.run_to_unsafe w ⟨b,0,none⟩ Tryz.underlying168 Tryz.underlying153 hj (by rw [hjs];decide) hsh (Nat.zero_lt_succ 1)]
 simp only [Result.andThen]
 rw [Oper.upon_value]
 go_wp2
 rw [run_callFunc_extern Tryz.func125 (by kernel_rfl) (by kernel_rfl) (by kernel_rfl) (e:=Extern.AbiNoEscape.same) (by kernel_rfl)]
 rw [Lib.run_noEscape]
 simp only [Result.andThen]
 rw [Oper.upon_value]
 go_wp2
 rw [Lib.run_from_unsafe w ⟨b,0,none⟩ Tryz.underlying153 Tryz.underlying168 hj hsh lies_builder]
 simp only [Result.andThen]
 rw [Oper.upon_value]
 go_wp2
 go_end0
 exact ⟨rfl,rfl⟩
theorem copyCheck_any (B b:Nat) (bs:List Value) (w:World) (h:Lib.IsBuilder 170 5 B b bs w) :
  Calls Tryz.prog 122 #[.pointer (some ⟨b,0,none⟩)] w fun e w'=>e = .returned (.tuple #[]) ∧ Lib.BuilderAt 170 5 B b (.pointer (some ⟨b,0,none⟩)) bs w' ∧ Below B w w' ∧ Lib.OthersKept 5 (some b) w w':=by
 rcases h with h | h
 ·refine (copyCheck_fresh b w h.cell0 h.shape h.frozen0).mono ?_
  rintro e w' ⟨rfl,rfl⟩
  exact ⟨rfl,h.used _,(Below.refl B w).setCell (p:=⟨b,0,none⟩) h.1 _,(Lib.OthersKept.refl _ _ w).setCell ⟨b,0,none⟩ rfl _⟩
 ·refine (copyCheck_used b w h.cell0).mono ?_
  rintro e w' ⟨rfl,rfl⟩
  exact ⟨rfl,h,Below.refl B _,Lib.OthersKept.refl _ _ _⟩
set_option maxRecDepth 100000 in
theorem writeString_any (B b:Nat) (l t:List UInt8) (w:World) (h:BuildAt B b l w) (hlen:l.length + t.length ≤ 140737488355328) (hBw:B ≤ w.heap.size) :
  Calls Tryz.prog 99 #[.pointer (some ⟨b,0,none⟩),.string ⟨t.toArray⟩] w fun e w'=>e = .returned (.tuple #[.int .i64 (t.length:Nat),.nilIface]) ∧ BuildAt B b (l ++ t) w' ∧ Below B w w' ∧ Lib.OthersKept 5 (some b) w w':=by
 obtain ⟨i0,hi,hz0,hz1,hz2⟩:=info_parts info_b8
 have hts:(ByteArray.mk t.toArray).size = t.length:=by show t.toArray.size = _;simp
 go_enter Tryz.func99,Tryz.ntmps99
 go_wp2_with fail
 refine (copyCheck_any B b _ _ h).mono ?_
 rintro e w1 ⟨rfl,h1,hb1,hk1⟩
 obtain ⟨hB,v,hbk,hown,hne⟩:=h1
 have c0:w1.cell? ⟨b,0,none⟩ = some (.pointer (some ⟨b,0,none⟩)):=by rw [Lib.cell_of_heap hbk];rfl
 have c1:w1.cell? ⟨b,1,none⟩ = some v:=by rw [Lib.cell_of_heap hbk];rfl
 have Hts:=Lib.hid hts;clear hts
 go_wp2_with (at_builtin;refine Lib.wpList_append_own_string _ rfl _ _ 129 9 rfl B 5 i0 Tryz.underlying129 Tryz.underlying9 hi hz0 hz1 hz2 _ _ _ rfl hown ⟨t.toArray⟩ rfl ?c3 ?c4 ?c5 ?_)
 case c3=>rw [Hts.out];unfold maxLen;simp;omega
 case c4=>rw [Hts.out];simp;omega
 case c5=>have:=hb1.size;omega
 intro v' w2 hown' hgrow _
 have hlt:b < w1.heap.size:=by
  rcases Nat.lt_or_ge b w1.heap.size with h' | h'
  ·exact h'
  ·simp [Array.getElem?_eq_none h'] at hbk
 have hb2:w2.heap[b]? = some (.cells #[.pointer (some ⟨b,0,none⟩),v] 170 (0,0)):=by
  rw [hgrow.block b hlt (fun e=>hne e.symm)]
  exact hbk
 have d0:w2.cell? ⟨b,0,none⟩ = some (.pointer (some ⟨b,0,none⟩)):=by rw [Lib.cell_of_heap hb2];rfl
 have d1:w2.cell? ⟨b,1,none⟩ = some v:=by rw [Lib.cell_of_heap hb2];rfl
 have f1:w2.frozen? ⟨b,1,none⟩ = false:=Lib.frozen_of_heap hb2 1
 obtain ⟨ao,n',cap,rfl⟩:∃ ao n' cap,v' = .slice ao n' cap:=by
  rcases hown'.2 with ⟨hv,_⟩ | ⟨g,cap,cur,hv,_⟩
  ·exact ⟨_,_,_,hv⟩
  ·exact ⟨_,_,_,hv⟩
 go_wp2
 go_ret2
 refine ⟨ret_of (by rw [← Hts.out];rfl),?_,?_,?_⟩
 ·refine .inr ?_
  rw [List.map_append]
  exact Lib.BuilderAt.put (T:=170) (e:=5) hB hb2 (bs':=l.map byteV ++ t.map byteV) (by have h2:=hown';rw [strCells_byteV] at h2;rw [List.length_append,List.length_map,List.length_map];simpa using h2) (by decide)
 ·exact (hb1.grown hgrow (by have:=hb1.size;omega) (fun k hk=>(hown.lt k hk).1)).setCell (p:=⟨b,1,none⟩) hB _
 ·refine (hk1.grown hgrow ?_).setCell ⟨b,1,none⟩ rfl _
  intro g hg
  rcases hown.2 with ⟨rfl,_⟩ | ⟨g',cap',cur,rfl,_,hh,_⟩
  ·cases hg
  ·injection hg with hg;subst hg;exact ⟨cur,(0,0),hh⟩
theorem others_of_below {e:TypeId} {b:Option Nat} {w w':World} (h:Below w.heap.size w w'):Lib.OthersKept e b w w':=by
 intro k o hk _ _
 rw [h.block k (Array.getElem?_eq_some_iff.1 hk).1]
 exact hk
theorem BuildAt.kept {B b:Nat} {l:List UInt8} {w w':World} {e:TypeId} {o:Option Nat} (h:BuildAt B b l w) (hk:Lib.OthersKept e o w w') (he:e ≠ 170) (he2:e ≠ 5) (hob:∀ k cs fz T,w.heap[k]? = some (.cells cs T fz) → (T = 170 ∨ T = 5) → some k ≠ o):BuildAt B b l w':=by
 have main:∀ p,Lib.BuilderAt 170 5 B b p (l.map byteV) w → Lib.BuilderAt 170 5 B b p (l.map byteV) w':=by
  rintro p ⟨hB,v,hbk,hown,hne⟩
  refine ⟨hB,v,hk _ _ hbk (hob _ _ _ _ hbk (.inl rfl)) (fun c fz hc=>he (by injection hc with _ h2 _;exact h2.symm)),⟨hown.1,?_⟩,hne⟩
  rcases hown.2 with h1 | ⟨g,cap,cur,hv,h1,h2,h3⟩
  ·exact .inl h1
  ·exact .inr ⟨g,cap,cur,hv,h1,hk _ _ h2 (hob _ _ _ _ h2 (.inr rfl)) (fun c fz hc=>he2 (by injection hc with _ h2 _;exact h2.symm)),h3⟩
 rcases h with h | h
 ·exact .inl (main _ h)
 ·exact .inr (main _ h)
theorem BuildAt.below {B b:Nat} {l:List UInt8} {w w':World} (h:BuildAt B b l w) (hb:Below w.heap.size w w'):BuildAt B b l w' :=
 h.kept (e:=3) (o:=none) (others_of_below hb) (by decide) (by decide) (fun _ _ _ _ _ _=>by simp)
theorem builderString_any (B b:Nat) (l:List UInt8) (w:World) (h:BuildAt B b l w) (hBw:B ≤ w.heap.size) :
  Calls Tryz.prog 102 #[.pointer (some ⟨b,0,none⟩)] w fun e w'=>e = .returned (.string ⟨l.toArray⟩) ∧ Below B w w':=Tryz.Builder_String_any B b l w h hBw
end Go.Proofs.YtapiabmmfmfaeaaGreatDoor
/- The walks of enc's known, Check, size, plain at numbers, Plain; the closed fact four. -/
namespace Go.Proofs.YtapiabmmfmfaeaaGreatDoor
set_option maxHeartbeats 2000000
set_option linter.unusedVariables false
open Go Go.RowKit Go.ChangeShapes
set_option maxRecDepth 100000 in
theorem known_ok (kind n:Int) (w:World) (h1:1 ≤ kind) (h5:kind ≤ 5) (h0:0 ≤ n) (hn:n ≤ 20000) :
  Calls Tryz.prog 46 #[.int .i64 kind,.int .i64 n] w fun e w'=>e = .returned .nilIface ∧ w' = w:=by
 go_enter Tryz.func46,Tryz.ntmps46
 go_wp2_with fail
 go_ret
 exact ⟨rfl,rfl⟩
theorem val_info:∃ i,Tryz.prog.info? 41 = some i ∧ i.zero = some (.agg #[.int .i64 0,.int .i64 0,.string ByteArray.empty]) ∧ i.size = 3:=by
 have h1:=val_zero
 have h2:=val_size
 cases h:Tryz.prog.info? 41 with
 | none=>rw [h] at h1;cases h1
 | some i=>rw [h] at h1 h2;exact ⟨i,rfl,by simpa using h1,by simpa using h2⟩
set_option maxRecDepth 100000 in
theorem check_vals (kind:Int) (v:Value) (l:List Val) (w:World) (hI:IsVals w v l) (h1:1 ≤ kind) (h5:kind ≤ 5) (hl:l.length ≤ 20000) (hO:∀ x ∈ l,x.Ok) (hP:∀ x ∈ l,OkP kind x) :
  Calls Tryz.prog 103 #[.int .i64 kind,v] w fun e w'=>e = .returned .nilIface ∧ Below w.heap.size w w':=by
 obtain ⟨iv,hiv,hzv,hsv⟩:=val_info
 have hsz:(Tryz.prog.info? 41).map (·.size) = some (valA ⟨0,0,⟨#[]⟩⟩).size:=by rw [hiv];simp [hsv,valA]
 have HI:=Lib.hid hI;have HO:=Lib.hid hO;have HP:=Lib.hid hP
 obtain ⟨ad,cap,rfl⟩:=hI.form
 clear hI hO hP
 go_enter Tryz.func103,Tryz.ntmps103
 go_wp2_with fail
 refine (known_ok kind l.length w h1 h5 (by omega) (by omega)).mono ?_;rintro e w1 ⟨rfl,rfl⟩
 go_wp2_with fail
 go_loopw [17] (fun i wr=>∃ k:Nat,k ≤ l.length ∧ i = .int .i64 (k:Nat) ∧ Below w1.heap.size w1 wr) (fun i _=>l.length - (intOf i).toNat)
 case atStart=>exact ⟨0,Nat.zero_le _,rfl,Below.refl _ _⟩
 case round =>
  obtain ⟨k,hk,rfl,hb⟩:=hrel
  by_cases hlt:k < l.length
  ·obtain ⟨b0,off,rfl,hq,hlt0,hc⟩:=(HI.out.below hb (Nat.le_refl _)).at (by omega)
   have hcx:=hc k l[k] (List.getElem?_eq_getElem hlt)
   have hox:=HO.out l[k] (List.getElem_mem hlt)
   have hpx:=HP.out l[k] (List.getElem_mem hlt)
   generalize l[k] = x at *
   have hOK:=Lib.hid (fun w2=>ok_yes kind x hox w2 hpx)
   have Hcx:=Lib.hid hcx.cells
   clear hq hc hcx hox hpx
   have hin:(k:Int) < (l.length:Int):=by omega
   go_wp2_with (first
    | (refine wpList_load_cells rfl 41 _ rfl b0 (off + k * 3) rfl (valA x) _ Hcx.out Tryz.underlying41 rfl hsz ?_)
    | (refine wpList_alloc_row rfl 41 rfl iv _ _ hiv hzv rfl ?_)
    | (refine wpList_store_new rfl rfl 41 _ _ rfl rfl _ (valA x) rfl hsz rfl (valA_one x) ?_)
    | (refine wpList_load_row rfl 41 _ rfl wr.heap.size rfl 41 (valA x) (0,0) _ (heap_alloc_last _ _) Tryz.underlying41 rfl hsz ?_))
   refine (hOK.out _).mono ?_;rintro e w2 ⟨rfl,hb2⟩
   go_wp2_with fail
   go_roundw
   case rel=>exact ⟨k + 1,by omega,by go_num,(hb.alloc hb.size _).trans (hb2.mono (by simp;have:=hb.size;omega))⟩
   case measure=>simp [intOf];omega
  ·go_wp2_with fail
   go_ret
   exact ⟨rfl,hb⟩
set_option maxRecDepth 100000 in
theorem string_fresh (b:Nat) (w:World) (h:w.heap[b]? = some (.cells #[.pointer none,.slice none 0 0] 170 (0,0))) :
  Calls Tryz.prog 102 #[.pointer (some ⟨b,0,none⟩)] w fun e w'=>e = .returned (.string ⟨#[]⟩) ∧ Below w.heap.size w w':=by
 have c1:w.cell? ⟨b,1,none⟩ = some (.slice none 0 0):=by rw [Lib.cell_of_heap h];rfl
 have hsd:∀ w,(Builtin.unsafeSliceData_ #[129] 207 #[.slice none 0 0]).run Tryz.prog w = .ok (.pointer none) w:=fun w=>by kernel_rfl
 have hus:∀ w,(Builtin.unsafeString_ #[207,3] 9 #[.pointer none,.int .i64 0]).run Tryz.prog w = .ok (.string ⟨#[]⟩) w:=fun w=>by kernel_rfl
 go_enter Tryz.func102,Tryz.ntmps102
 go_wp2_with fail
 go_region
 all_goals
  go_wp2_with fail
  go_ret
  exact ⟨rfl,(Below.refl _ _).drew⟩
def uN (x:Val):Nat:=(x.n % 18446744073709551616).toNat
theorem uN_wrap (x:Val):IntKind.u64.wrap x.n = (uN x:Int):=by
 unfold uN;rw [IntKind.wrap_u64];omega
theorem uN_lt (x:Val):uN x < 18446744073709551616:=by unfold uN;omega
def numsOf (wd:Nat) (l:List Val):List Nat:=l.map fun x=>uN x % 2 ^ wd
theorem numsOf_lt (wd:Nat) (l:List Val):∀ n ∈ numsOf wd l,n < 2 ^ wd:=by
 intro n hn
 obtain ⟨x,_,rfl⟩:=List.mem_map.1 hn
 exact Nat.mod_lt _ (Nat.pow_pos (by decide))
theorem own_keep {w w':World} {B n:Nat} {e:TypeId} {v:Value} {xs:List Value} (h:w.ownsRow B e 1 v n xs) (hb:Below w.heap.size w w'):w'.ownsRow B e 1 v n xs:=by
 refine ⟨h.1,?_⟩
 rcases h.2 with h0 | ⟨g,cap,cur,hv,h1,h2,h3⟩
 ·exact .inl h0
 ·exact .inr ⟨g,cap,cur,hv,h1,(hb.block g (Array.getElem?_eq_some_iff.1 h2).1).trans h2,h3⟩
theorem BitsAt.below {B b m V:Nat} {w w':World} (h:BitsAt B b m V w) (hb:Below w.heap.size w w'):BitsAt B b m V w':=by
 obtain ⟨hB,v,h1,h2⟩:=h
 exact ⟨hB,v,(hb.block b (Array.getElem?_eq_some_iff.1 h1).1).trans h1,own_keep h2 hb⟩
set_option maxRecDepth 100000 in
theorem sizeE (kind:Int) (z:Nat) (w:World) (h:kind = 2 ∧ z = 4 ∨ kind = 3 ∧ z = 8 ∨ kind = 5 ∧ z = 8) :
  Calls Tryz.prog 78 #[.int .i64 kind] w fun e w'=>e = .returned (.int .i64 (z:Nat)) ∧ w' = w:=by
 rcases h with ⟨rfl,rfl⟩ | ⟨rfl,rfl⟩ | ⟨rfl,rfl⟩
 all_goals
  go_enter Tryz.func78,Tryz.ntmps78
  go_wp2_with fail
  go_ret
  exact ⟨rfl,rfl⟩
def WdOf (kind:Int) (wd:Nat):Prop:=kind = 1 ∧ wd = 1 ∨ kind = 2 ∧ wd = 32 ∨ kind = 3 ∧ wd = 64 ∨ kind = 5 ∧ wd = 64
set_option maxRecDepth 100000 in
theorem plain_nums (kind:Int) (wd:Nat) (hk:WdOf kind wd) (v:Value) (l:List Val) (w:World) (hI:IsVals w v l) (hl:l.length ≤ 20000) (hO:∀ x ∈ l,x.Ok) :
  Calls Tryz.prog 104 #[.int .i64 kind,v] w fun e w'=>e = .returned (.string ⟨(packed wd (numsOf wd l)).toArray⟩) ∧ Below w.heap.size w w':=by
 obtain ⟨iv,hiv,hzv,hsv⟩:=val_info
 have hsz:(Tryz.prog.info? 41).map (·.size) = some (valA ⟨0,0,⟨#[]⟩⟩).size:=by rw [hiv];simp [hsv,valA]
 have hwd:wd ≤ 64:=by unfold WdOf at hk;omega
 have hW2:∀ u v,Below w.heap.size w ((w.alloc u).alloc v):=fun u v=>((Below.refl _ _).alloc (Nat.le_refl _) _).alloc (by simp) _
 have hBd0:BuildAt w.heap.size w.heap.size [] ((w.alloc (.cells #[.pointer none,.slice none 0 0] 170)).alloc (.cells #[.slice none 0 0,.int .i64 0] 187)) :=
  (BuildAt.fresh w).below ((Below.refl _ _).alloc (Nat.le_refl _) _)
 have hBt0:BitsAt (w.heap.size + 1) (w.heap.size + 1) 0 0 ((w.alloc (.cells #[.pointer none,.slice none 0 0] 170)).alloc (.cells #[.slice none 0 0,.int .i64 0] 187)) :=
  ⟨Nat.le_refl _,.slice none 0 0,by simpa using heap_alloc_new (w.alloc (.cells #[.pointer none,.slice none 0 0] 170)) (.cells #[.slice none 0 0,.int .i64 0] 187),World.ownsRow_nil _ _ _ _⟩
 have hsz2:((w.alloc (.cells #[.pointer none,.slice none 0 0] 170)).alloc (.cells #[.slice none 0 0,.int .i64 0] 187)).heap.size = w.heap.size + 2:=by simp
 have hbw:=hW2 (.cells #[.pointer none,.slice none 0 0] 170) (.cells #[.slice none 0 0,.int .i64 0] 187)
 have hbk0:((w.alloc (.cells #[.pointer none,.slice none 0 0] 170)).alloc (.cells #[.slice none 0 0,.int .i64 0] 187)).heap[w.heap.size]? = some (.cells #[.pointer none,.slice none 0 0] 170 (0,0)):=by
  rw [Lib.alloc_old _ _ _ (by simp)];exact heap_alloc_new w _
 have Hbk0:=Lib.hid hbk0
 clear hbk0
 have HI:=Lib.hid hI;have HO:=Lib.hid hO;have HBd:=Lib.hid hBd0;have HBt:=Lib.hid hBt0;have Hsz2:=Lib.hid hsz2;have Hbw:=Lib.hid hbw
 obtain ⟨ad,cap,rfl⟩:=hI.form
 clear hI hO hW2 hBd0 hBt0 hsz2 hbw
 go_enter Tryz.func104,Tryz.ntmps104
 go_wp2_with fail
 generalize (w.alloc (.cells #[.pointer none,.slice none 0 0] 170)).alloc (.cells #[.slice none 0 0,.int .i64 0] 187) = W2 at *
 go_loopw [11] (fun i wr=>∃ k:Nat,k ≤ l.length ∧ i = .int .i64 (k:Nat) ∧ BitsAt (w.heap.size + 1) (w.heap.size + 1) (k * wd) (packN wd (numsOf wd (l.take k))) wr ∧ Below (w.heap.size + 1) W2 wr) (fun i _=>l.length - (intOf i).toNat)
 case atStart=>exact ⟨0,Nat.zero_le _,rfl,by simpa [numsOf,packN] using HBt.out,Below.refl _ _⟩
 case round =>
  obtain ⟨k,hkl,rfl,hbt,hb⟩:=hrel
  have hbwr:Below w.heap.size w wr:=Hbw.out.trans (hb.mono (by omega))
  have hs2:w.heap.size + 2 ≤ wr.heap.size:=by have:=hb.size;rw [Hsz2.out] at this;exact this
  have Hbt:=Lib.hid hbt;have Hb:=Lib.hid hb
  clear hbt hb
  by_cases hlt:k < l.length
  ·obtain ⟨b0,off,rfl,hq,hlt0,hc⟩:=(HI.out.below hbwr (Nat.le_refl _)).at (by omega)
   have hcx:=hc k l[k] (List.getElem?_eq_getElem hlt)
   have hox:=HO.out l[k] (List.getElem_mem hlt)
   have hn:l.take (k + 1) = l.take k ++ [l[k]]:=List.take_succ_eq_append_getElem hlt
   generalize l[k] = x at *
   have Hcx:=Lib.hid hcx.cells
   have hin:(k:Int) < (l.length:Int):=by omega
   have hcv:=uN_wrap x
   have hul:=uN_lt x
   have hkw:k * wd ≤ 20000 * 64:=Nat.mul_le_mul (by omega) hwd
   have hlk:(numsOf wd (l.take k)).length = k:=by simp [numsOf];omega
   have hV:packN wd (numsOf wd (l.take k)) < 2 ^ (k * wd):=by have:=packN_lt wd _ (numsOf_lt wd (l.take k));rwa [hlk] at this
   have hN:packN wd (numsOf wd (l.take (k + 1))) = packN wd (numsOf wd (l.take k)) + uN x % 2 ^ wd * 2 ^ (k * wd):=by
    have e:numsOf wd (l.take (k + 1)) = numsOf wd (l.take k) ++ [uN x % 2 ^ wd]:=by rw [hn];simp [numsOf]
    rw [e,packN_snoc,hlk]
   have HN:=Lib.hid hN
   have c1:(wr.alloc (.cells (valA x) 41)).cell? ⟨wr.heap.size,1,none⟩ = some (.int .i64 x.n):=by rw [World.cell?_alloc_at _ _ _ _ rfl];rfl
   have HPut:=Lib.hid (fun w3 h h3=>put_any (w.heap.size + 1) (w.heap.size + 1) (k * wd) (packN wd (numsOf wd (l.take k))) (uN x) wd w3 h hV hul hwd (by omega) h3)
   have hbn:Below wr.heap.size wr (wr.alloc (.cells (valA x) 41)):=(Below.refl _ _).alloc (Nat.le_refl _) _
   have Hbn:=Lib.hid hbn
   clear hq hc hcx hox hn hkw hlk hV hN hul hbn
   rcases hk with ⟨rfl,rfl⟩ | ⟨rfl,rfl⟩ | ⟨rfl,rfl⟩ | ⟨rfl,rfl⟩
   all_goals
    go_wp2_with (first
     | (refine wpList_load_cells rfl 41 _ rfl b0 (off + k * 3) rfl (valA x) _ Hcx.out Tryz.underlying41 rfl hsz ?_)
     | (refine wpList_alloc_row rfl 41 rfl iv _ _ hiv hzv rfl ?_)
     | (refine wpList_store_new rfl rfl 41 _ _ rfl rfl _ (valA x) rfl hsz rfl (valA_one x) ?_))
   focus
    refine (HPut.out _ (Hbt.out.below Hbn.out) (by simp;omega)).mono ?_;rintro e w4 ⟨rfl,hbt4,_,hb4⟩
   rotate_left
   focus
    generalize wr.alloc (.cells (valA x) 41) = wn at *
    go_still_tail 6,(by kernel_rfl)
    still_call (sizeE 2 4 _ (.inl ⟨rfl,rfl⟩))
    repeat still_step
    refine wpStill_nil ?_
    change wpList _ _ _ _ _ wn.drew
    go_wp2_with fail
    refine (HPut.out _ (Hbt.out.below Hbn.out.drew) (by have:=Hbn.out.size;show _ ≤ wn.heap.size;omega)).mono ?_;rintro e w4 ⟨rfl,hbt4,_,hb4⟩
   rotate_left
   focus
    generalize wr.alloc (.cells (valA x) 41) = wn at *
    go_still_tail 6,(by kernel_rfl)
    still_call (sizeE 3 8 _ (.inr (.inl ⟨rfl,rfl⟩)))
    repeat still_step
    refine wpStill_nil ?_
    change wpList _ _ _ _ _ wn.drew
    go_wp2_with fail
    refine (HPut.out _ (Hbt.out.below Hbn.out.drew) (by have:=Hbn.out.size;show _ ≤ wn.heap.size;omega)).mono ?_;rintro e w4 ⟨rfl,hbt4,_,hb4⟩
   rotate_left
   focus
    generalize wr.alloc (.cells (valA x) 41) = wn at *
    go_still_tail 6,(by kernel_rfl)
    still_call (sizeE 5 8 _ (.inr (.inr ⟨rfl,rfl⟩)))
    repeat still_step
    refine wpStill_nil ?_
    change wpList _ _ _ _ _ wn.drew
    go_wp2_with fail
    refine (HPut.out _ (Hbt.out.below Hbn.out.drew) (by have:=Hbn.out.size;show _ ≤ wn.heap.size;omega)).mono ?_;rintro e w4 ⟨rfl,hbt4,_,hb4⟩
   rotate_left
   all_goals
    have Hbt4:=Lib.hid hbt4
    have hb4':Below (w.heap.size + 1) wr w4:=by first | exact (Hbn.out.mono (by omega)).trans hb4 | exact (Hbn.out.drew.mono (by omega)).trans hb4
    clear hbt4 hb4
    go_wp2_with fail
    go_roundw
    case rel=>exact ⟨k + 1,by omega,by go_num,by rw [HN.out,Nat.add_one_mul];exact Hbt4.out,Hb.out.trans hb4'⟩
    case measure=>simp [intOf];omega
  ·obtain rfl:k = l.length:=by omega
   rw [List.take_length] at Hbt
   have hbk:wr.heap[w.heap.size]? = some (.cells #[.pointer none,.slice none 0 0] 170 (0,0)):=(Hb.out.block w.heap.size (by omega)).trans Hbk0.out
   have Hbk:=Lib.hid hbk
   have hpk:packed wd (numsOf wd l) = bytesOf (l.length * wd) (packN wd (numsOf wd l)):=by simp [packed,numsOf]
   have Hpk:=Lib.hid hpk
   have hpl:(bytesOf (l.length * wd) (packN wd (numsOf wd l))).length ≤ 200000:=by
    rw [bytesOf_len]
    have:l.length * wd ≤ 20000 * 64:=Nat.mul_le_mul hl hwd
    omega
   have HT:=Lib.hid (fun w5 h=>text_bits (w.heap.size + 1) (w.heap.size + 1) (l.length * wd) (packN wd (numsOf wd l)) w5 h)
   clear hbk hpk
   generalize bytesOf (l.length * wd) (packN wd (numsOf wd l)) = pk at *
   go_wp2_with fail
   refine (string_fresh w.heap.size wr Hbk.out).mono ?_;rintro e w3 ⟨rfl,hb3⟩
   go_wp2_with fail
   refine (HT.out w3 (Hbt.out.below hb3)).mono ?_;rintro e w4 ⟨rfl,rfl⟩
   go_wp2_with fail
   go_ret
   exact ⟨ret_of (by
    rw [Hpk.out]
    show Value.string (ByteArray.mk [].toArray ++ ByteArray.mk pk.toArray) = _
    rw [ByteArray.mk_append_mk]
    rfl),hbwr.trans (hb3.mono hbwr.size)⟩
end Go.Proofs.YtapiabmmfmfaeaaGreatDoor
/- Chapter 3 in plain Lean: values, plain, as bytes; what the bytes tell. -/
namespace Go.Proofs.YtapiabmmfmfaeaaGreatDoor
set_option maxHeartbeats 2000000
open Go
def okB (kind:Int) (x:Val):Bool :=
 decide (x.k = kind) && (if kind = 4 then decide (x.n = 0) && decide (x.s.size ≤ 100) else decide (x.s.size = 0) && (!decide (kind = 1) || (decide (0 ≤ x.n) && decide (x.n ≤ 1))) && (!decide (kind = 2) || (decide (-2147483648 ≤ x.n) && decide (x.n ≤ 2147483647))))
theorem okB_iff (kind:Int) (x:Val):okB kind x = true ↔ OkP kind x:=by
 unfold okB
 constructor
 ·intro h
  rw [Bool.and_eq_true,decide_eq_true_eq] at h
  obtain ⟨hk,h⟩:=h
  by_cases c:kind = 4
  ·rw [if_pos c] at h
   simp only [Bool.and_eq_true,decide_eq_true_eq] at h
   exact ⟨hk,fun _=>h,fun d=>absurd c d,fun d=>by omega,fun d=>by omega⟩
  ·rw [if_neg c] at h
   simp only [Bool.and_eq_true,decide_eq_true_eq,Bool.or_eq_true,Bool.not_eq_true',decide_eq_false_iff_not] at h
   obtain ⟨⟨h1,h2⟩,h3⟩:=h
   exact ⟨hk,fun d=>absurd d c,fun _=>h1,fun d=>h2.resolve_left (fun e=>e d),fun d=>h3.resolve_left (fun e=>e d)⟩
 ·intro h
  rw [Bool.and_eq_true,decide_eq_true_eq]
  refine ⟨h.k,?_⟩
  by_cases c:kind = 4
  ·rw [if_pos c]
   simpa using h.text c
  ·rw [if_neg c]
   simp only [Bool.and_eq_true,decide_eq_true_eq,Bool.or_eq_true,Bool.not_eq_true',decide_eq_false_iff_not]
   refine ⟨⟨h.num c,?_⟩,?_⟩
   ·by_cases d:kind = 1
    ·exact .inr (h.bool d)
    ·exact .inl d
   ·by_cases d:kind = 2
    ·exact .inr (h.int d)
    ·exact .inl d
theorem okB_false (kind:Int) (x:Val):okB kind x = false ↔ ¬ OkP kind x:=by
 rw [← okB_iff,Bool.not_eq_true]
def badAt (kind:Int):List Val → Nat → Option Nat
 | [],_=>none
 | x :: l,i=>if okB kind x then badAt kind l (i + 1) else some i
def valsErr (kind:Int) (l:List Val):GErr :=
 if kind < 1 ∨ 5 < kind then .sent 4 else if 20000 < l.length then .sent 2 else match badAt kind l 0 with
 | none=>.nil
 | some i=>.fault 4 (i:Nat)
theorem badAt_none (kind:Int):∀ (l:List Val) (i:Nat),badAt kind l i = none ↔ ∀ x ∈ l,OkP kind x
 | [],_=>by simp [badAt]
 | a :: l,i=>by
  have ih:=badAt_none kind l (i + 1)
  unfold badAt
  by_cases h:okB kind a = true
  ·rw [if_pos h,ih]
   simp [(okB_iff kind a).1 h]
  ·rw [if_neg h]
   simp only [reduceCtorEq,List.mem_cons,forall_eq_or_imp,false_iff,not_and]
   intro h'
   exact absurd ((okB_iff kind a).2 h') h
theorem badAt_some (kind:Int):∀ (l:List Val) (i j:Nat),badAt kind l i = some j → ∃ q x,j = i + q ∧ l[q]? = some x ∧ ¬ OkP kind x ∧ ∀ p y,p < q → l[p]? = some y → OkP kind y
 | [],_,_,h=>by simp [badAt] at h
 | a :: l,i,j,h=>by
  unfold badAt at h
  by_cases ha:okB kind a = true
  ·rw [if_pos ha] at h
   obtain ⟨q,x,h1,h2,h3,h4⟩:=badAt_some kind l (i + 1) j h
   refine ⟨q + 1,x,by omega,by simpa using h2,h3,fun p y hp hy=>?_⟩
   cases p with
   | zero=>simp at hy;subst hy;exact (okB_iff kind a).1 ha
   | succ p=>exact h4 p y (by omega) (by simpa using hy)
  ·rw [if_neg ha] at h
   obtain rfl:=Option.some.inj h
   exact ⟨0,a,rfl,rfl,fun h'=>ha ((okB_iff kind a).2 h'),fun p y hp=>by omega⟩
theorem valsErr_nil {kind:Int} {l:List Val} (h:valsErr kind l = .nil):1 ≤ kind ∧ kind ≤ 5 ∧ l.length ≤ 20000 ∧ ∀ x ∈ l,OkP kind x:=by
 unfold valsErr at h
 split at h
 ·cases h
 ·split at h
  ·cases h
  ·split at h
   ·exact ⟨by omega,by omega,by omega,(badAt_none kind l 0).1 ‹_›⟩
   ·cases h
def wdOf (kind:Int):Nat:=if kind = 1 then 1 else if kind = 2 then 32 else 64
theorem wdOf_is {kind:Int} (h1:1 ≤ kind) (h5:kind ≤ 5) (h4:kind ≠ 4):WdOf kind (wdOf kind):=by
 unfold WdOf wdOf
 split
 ·exact .inl ⟨‹_›,rfl⟩
 ·split
  ·exact .inr (.inl ⟨‹_›,rfl⟩)
  ·by_cases h:kind = 3
   ·exact .inr (.inr (.inl ⟨h,rfl⟩))
   ·exact .inr (.inr (.inr ⟨by omega,rfl⟩))
theorem wdOf_le (kind:Int):wdOf kind ≤ 64:=by unfold wdOf;split <;> (try split) <;> omega
def textsB (l:List Val):List UInt8:=l.flatMap fun x=>textOf x.s.data.toList
def plainB (kind:Int) (l:List Val):List UInt8:=if kind = 4 then textsB l else packed (wdOf kind) (numsOf (wdOf kind) l)
theorem size_data (s:ByteArray):s.data.toList.length = s.size:=by simp
end Go.Proofs.YtapiabmmfmfaeaaGreatDoor
/- Chapter 3 in plain Lean: numbers of whole bytes, one behind the other. -/
namespace Go.Proofs.YtapiabmmfmfaeaaGreatDoor
set_option maxHeartbeats 2000000
open Go
theorem flat_snoc {α:Type} (f:α → List UInt8) (l:List α) (x:α):(l ++ [x]).flatMap f = l.flatMap f ++ f x:=by simp
theorem textOf_len (s:List UInt8) (h:s.length ≤ 100):(textOf s).length = s.length + 1:=by
 unfold textOf
 rw [List.length_append,seven_lt (by omega)]
 simp;omega
theorem texts_len:∀ (l:List Val),(∀ x ∈ l,x.s.size ≤ 100) → (textsB l).length ≤ 101 * l.length
 | [],_=>by simp [textsB]
 | a :: l,h=>by
  have h1:=h a (by simp)
  have h2:=texts_len l fun x hx=>h x (by simp [hx])
  rw [textsB,List.flatMap_cons,List.length_append,textOf_len _ (by rw [size_data];exact h1),size_data]
  unfold textsB at h2
  simp only [List.length_cons]
  omega
theorem plainB_len (kind:Int) (l:List Val) (h:kind = 4 → ∀ x ∈ l,x.s.size ≤ 100):(plainB kind l).length ≤ 101 * l.length:=by
 unfold plainB
 split
 ·exact texts_len l (h ‹_›)
 ·rw [packed,bytesOf_len]
  have h1:=wdOf_le kind
  have h2:(numsOf (wdOf kind) l).length = l.length:=by simp [numsOf]
  have h3:l.length * wdOf kind ≤ l.length * 64:=Nat.mul_le_mul_left _ h1
  rw [h2]
  cases l with
  | nil=>simp
  | cons a l=>simp only [List.length_cons] at h3 ⊢;omega
end Go.Proofs.YtapiabmmfmfaeaaGreatDoor
/- The walks of the statements' values, small, and of SameValues; enc's Check and Plain where something is wrong. -/
namespace Go.Proofs.YtapiabmmfmfaeaaGreatDoor
set_option maxHeartbeats 2000000
set_option linter.unusedVariables false
open Go Go.RowKit Go.ChangeShapes
theorem val_infoB:∃ i,Tryz.prog.info? 41 = some i ∧ i.zero = some (.agg #[.int .i64 0,.int .i64 0,.string ByteArray.empty]) ∧ i.size = 3 ∧ i.bytes = 32:=by
 have h:(Tryz.prog.info? 41).map (fun i=>(i.zero,i.size,i.bytes)) = some (some (.agg #[.int .i64 0,.int .i64 0,.string ByteArray.empty]),3,32):=by kernel_rfl
 exact info_parts h |>.imp fun i h=>⟨h.1,h.2.1,h.2.2.1,h.2.2.2⟩
def valEq (x y:Val):Bool:=decide (x.k = y.k) && (decide (x.n = y.n) && decide (x.s = y.s))
theorem valEq_iff (x y:Val):valEq x y = true ↔ x = y:=by
 unfold valEq
 cases x;cases y
 simp
def sameB:List Val → List Val → Bool
 | [],[]=>true
 | x :: a,y :: b=>valEq x y && sameB a b
 | _,_=>false
theorem sameB_iff:∀ a b,sameB a b = true ↔ a = b
 | [],[]=>by simp [sameB]
 | [],_ :: _=>by simp [sameB]
 | _ :: _,[]=>by simp [sameB]
 | x :: a,y :: b=>by simp [sameB,valEq_iff,sameB_iff a b]
theorem val_ifs (x y:Val) {α:Type} (p q:α):(if x.k = y.k then if x.n = y.n then if x.s.toList = y.s.toList then p else q else q else q) = if valEq x y = true then p else q:=by
 by_cases h:valEq x y = true
 ·rw [if_pos h]
  obtain rfl:=(valEq_iff x y).1 h
  simp
 ·rw [if_neg h]
  by_cases h1:x.k = y.k
  ·by_cases h2:x.n = y.n
   ·have h3:¬ x.s.toList = y.s.toList:=fun h3=>h (by unfold valEq;simp [h1,h2,toList_inj h3])
    rw [if_pos h1,if_pos h2,if_neg h3]
   ·rw [if_pos h1,if_neg h2]
  ·rw [if_neg h1]
theorem neq_val (x y:Val) (w:World):(binOp .neq 41 (.agg (valA x)) (.agg (valA y))).run Tryz.prog w = .ok (.bool (!valEq x y)) w:=by
 have hm:Tryz.prog.stoodInHeld 41 = false:=by kernel_rfl
 unfold valA
 simp [go_sem]
 rw [val_ifs]
 cases valEq x y <;> rfl
theorem valEq_take {a b:List Val} {k:Nat} {x y:Val} (ht:a.take k = b.take k) (hx:a[k]? = some x) (hy:b[k]? = some y) (h:valEq x y = true):a.take (k + 1) = b.take (k + 1):=by
 obtain rfl:=(valEq_iff x y).1 h
 rw [List.take_add_one,List.take_add_one,ht,hx,hy]
theorem sameB_false {a b:List Val} {k:Nat} {x y:Val} (hx:a[k]? = some x) (hy:b[k]? = some y) (h:valEq x y = false):sameB a b = false:=by
 cases hs:sameB a b with
 | false=>rfl
 | true =>
  obtain rfl:=(sameB_iff a b).1 hs
  rw [hx] at hy
  obtain rfl:=Option.some.inj hy
  rw [(valEq_iff x x).2 rfl] at h
  cases h
theorem loadV {w:World} {b o:Nat} {x:Val} (h:ValAt w b o x) (n:Nat):(loadVar 41 ⟨b,o,none⟩).run Tryz.prog (w.drewN n) = .ok (.agg (valA x)) (w.drewN n):=by
 obtain ⟨iv,hiv,hzv,hsv⟩:=val_info
 exact run_loadVar_cells (w.drewN n) b o 41 (valA x) _ h.cells Tryz.underlying41 rfl (by rw [hiv];simp [hsv,valA])
theorem wpQuiet_loadS {P:Program} {ops:Array Oper} {C:World → Prop} {Q:Act → Prop} {rest:List Oper} {a:Act} {o:Oper} (hg:o.guard = none) (ty:TypeId) (x:Operand) (ho:o.op = .load ty x)
  (ad:Addr) (hx:a.eval x = .pointer (some ad)) (v:Value) (h1:∀ w,C w → (loadVar ty ad).run P w = .ok v w) (h:wpQuiet P ops C Q rest (a.put o.dst v)):wpQuiet P ops C Q (o :: rest) a:=by
 unfold wpQuiet
 rw [if_pos (by simp [Region.wanted,hg])]
 refine ⟨v,fun w hw=>?_,h⟩
 unfold Oper.quietAt
 simp [execOp,ho,hx,Instr.loadAt,Instr.sureAddr,h1 w hw,Oper.quietUpon,Result.andThen]
theorem wpQuiet_binS {P:Program} {ops:Array Oper} {C:World → Prop} {Q:Act → Prop} {rest:List Oper} {a:Act} {o:Oper} (hg:o.guard = none) (b:BinOp) (t t':TypeId) (x y:Operand) (ho:o.op = .binOp b t x y t')
  (u v r:Value) (hx:a.eval x = u) (hy:a.eval y = v) (hgd:∀ w,(eqGuard b t x y u v).run P w = .ok () w) (h1:∀ w,(binOp b t u v).run P w = .ok r w) (h:wpQuiet P ops C Q rest (a.put o.dst r)):wpQuiet P ops C Q (o :: rest) a:=by
 unfold wpQuiet
 rw [if_pos (by simp [Region.wanted,hg])]
 refine ⟨r,fun w hw=>?_,h⟩
 unfold Oper.quietAt
 simp [execOp,ho,hx,hy,hgd w,h1 w,Oper.quietUpon,Sem.run_bind,Result.andThen]
theorem val_guard (op:BinOp) (x y:Operand) (u v:Val) (w:World):(eqGuard op 41 x y (.agg (valA u)) (.agg (valA v))).run Tryz.prog w = .ok () w:=run_eqGuard_agg w op _ x y _ _ (by kernel_rfl)
set_option maxRecDepth 100000 in
theorem sameValues_any (v u:Value) (a b:List Val) (w:World) (hv:IsVals w v a) (hu:IsVals w u b) (h2:a.length ≤ maxLen) (h3:b.length ≤ maxLen) :
    Calls Tryz.prog 34 #[v,u] w fun e w'=>e = .returned (.bool (sameB a b)) ∧ Below w.heap.size w w':=by
  have HV:=Lib.hid hv;have HU:=Lib.hid hu
  obtain ⟨ad,cap,rfl⟩:=hv.form
  obtain ⟨ad',cap',rfl⟩:=hu.form
  unfold maxLen at h2 h3
  clear hv hu
  by_cases hl:a.length = b.length
  · have Hl:=Lib.hid hl
    have d1:((a.length:Int) != (b.length:Int)) = false:=by rw [hl];simp
    clear hl
    go_enter Tryz.func34,Tryz.ntmps34
    go_wp2_with fail
    go_loopw [5] (fun i wr=>∃ k:Nat,k ≤ a.length ∧ i = .int .i64 k ∧ a.take k = b.take k ∧ ∃ n,wr = w.drewN n) (fun i _=>a.length - (intOf i).toNat)
    case atStart=>exact ⟨0,Nat.zero_le _,rfl,rfl,0,rfl⟩
    case round =>
      obtain ⟨k,hk,rfl,ht,n,rfl⟩:=hrel
      have Ht:=Lib.hid ht
      clear ht
      by_cases hlt:k < a.length
      · obtain ⟨b0,off,rfl,hq,hlt0,hc⟩:=HV.out.at (by omega)
        obtain ⟨b1,off1,rfl,hq1,hlt1,hc1⟩:=HU.out.at (by have:=Hl.out;omega)
        have hx:=List.getElem?_eq_getElem hlt
        have hy:=List.getElem?_eq_getElem (show k < b.length by have:=Hl.out;omega)
        have l1:=loadV (hc k _ hx)
        have l2:=loadV (hc1 k _ hy)
        have e1:=fun w=>neq_val a[k] (b[k]'(by have:=Hl.out;omega)) w
        generalize a[k] = x at *
        generalize b[k]'(by have:=Hl.out;omega) = y at *
        have Hx:=Lib.hid hx;have Hy:=Lib.hid hy
        clear hc hc1 hq hq1 hx hy
        have hin:(k:Int) < (a.length:Int):=by omega
        have hin2:(k:Int) < (b.length:Int):=by have:=Hl.out;omega
        cases he:valEq x y
        · rw [he] at e1
          have Hf:=Lib.hid (sameB_false Hx.out Hy.out he)
          clear he
          go_wp2_with fail
          refine wp_region_quiet_lit (by kernel_rfl) (by kernel_rfl) ?_
          repeat (go_big_quiet_step (fail))
          refine wpQuiet_loadS rfl _ _ rfl _ rfl _ (fun w ⟨q,hq⟩=>by rw [hq,World.drewN_drewN];exact l1 _) ?_
          repeat (quiet_step (fail))
          refine wpQuiet_loadS rfl _ _ rfl _ rfl _ (fun w ⟨q,hq⟩=>by rw [hq,World.drewN_drewN];exact l2 _) ?_
          refine wpQuiet_binS rfl .neq _ _ _ _ rfl (.agg (valA x)) (.agg (valA y)) _ rfl rfl (fun w=>val_guard _ _ _ x y w) e1 ?_
          refine wpQuiet_nil ?_
          rintro w' ⟨q,hq⟩
          rw [World.drewN_drewN] at hq
          subst hq
          go_simp
          go_wp2_with fail
          go_ret
          exact ⟨ret_of (by rw [Hf.out];rfl),below_drewN (Below.refl _ _) _⟩
        · rw [he] at e1
          have Htk:=Lib.hid (valEq_take Ht.out Hx.out Hy.out he)
          clear he
          go_wp2_with fail
          refine wp_region_quiet_lit (by kernel_rfl) (by kernel_rfl) ?_
          repeat (go_big_quiet_step (fail))
          refine wpQuiet_loadS rfl _ _ rfl _ rfl _ (fun w ⟨q,hq⟩=>by rw [hq,World.drewN_drewN];exact l1 _) ?_
          repeat (quiet_step (fail))
          refine wpQuiet_loadS rfl _ _ rfl _ rfl _ (fun w ⟨q,hq⟩=>by rw [hq,World.drewN_drewN];exact l2 _) ?_
          refine wpQuiet_binS rfl .neq _ _ _ _ rfl (.agg (valA x)) (.agg (valA y)) _ rfl rfl (fun w=>val_guard _ _ _ x y w) e1 ?_
          refine wpQuiet_nil ?_
          rintro w' ⟨q,hq⟩
          rw [World.drewN_drewN] at hq
          subst hq
          go_simp
          go_wp2_with fail
          go_roundw
          case rel=>exact ⟨k + 1,by omega,by go_num,Htk.out,_,rfl⟩
          case measure=>simp [intOf];omega
      · have hkl:k = a.length:=by omega
        have Hs:=Lib.hid (show sameB a b = true by
          rw [sameB_iff]
          have:=Ht.out
          rwa [hkl,List.take_length,Hl.out,List.take_length] at this)
        clear hkl
        go_wp2_with fail
        go_ret
        exact ⟨ret_of (by rw [Hs.out];rfl),below_drewN (Below.refl _ _) _⟩
  · have Hs:=Lib.hid (show sameB a b = false by
      cases hs:sameB a b with
      | false=>rfl
      | true=>exact absurd (by rw [(sameB_iff a b).1 hs]) hl)
    have d1:((a.length:Int) != (b.length:Int)) = true:=by simp;omega
    clear hl
    go_enter Tryz.func34,Tryz.ntmps34
    go_wp2_with fail
    go_ret
    exact ⟨ret_of (by rw [Hs.out];rfl),Below.refl _ _⟩
end Go.Proofs.YtapiabmmfmfaeaaGreatDoor
/- (*strings.Builder).String at whatever builder: what other blocks hold stays. -/
namespace Go.Proofs.YtapiabmmfmfaeaaGreatDoor
set_option maxHeartbeats 2000000
set_option linter.unusedVariables false
open Go Go.RowKit
set_option maxRecDepth 100000 in
theorem builderString_kept (B b:Nat) (l:List UInt8) (w:World) (h:BuildAt B b l w) (hBw:B ≤ w.heap.size) :
  Calls Tryz.prog 102 #[.pointer (some ⟨b,0,none⟩)] w fun e w'=>e = .returned (.string ⟨l.toArray⟩) ∧ Below B w w' ∧ Lib.OthersKept 5 none w w':=by
 obtain ⟨p,hB,v,hbk,hown,hne⟩:∃ p,Lib.BuilderAt 170 5 B b p (l.map byteV) w:=by
  rcases h with h | h
  ·exact ⟨_,h⟩
  ·exact ⟨_,h⟩
 rw [List.length_map] at hown
 have c1:w.cell? ⟨b,1,none⟩ = some v:=by rw [Lib.cell_of_heap hbk];rfl
 have hblt:b < w.heap.size:=(Array.getElem?_eq_some_iff.1 hbk).1
 rcases hown.2 with ⟨rfl,h0⟩ | ⟨g,cap,cur,rfl,hBg,hg,hnc,hcm,hcs,htk⟩
 ·obtain rfl:=List.eq_nil_of_length_eq_zero h0
  have hsd:∀ w,(Builtin.unsafeSliceData_ #[129] 207 #[.slice none 0 0]).run Tryz.prog w = .ok (.pointer none) w:=fun w=>by kernel_rfl
  have hus:∀ w,(Builtin.unsafeString_ #[207,3] 9 #[.pointer none,.int .i64 0]).run Tryz.prog w = .ok (.string ⟨#[]⟩) w:=fun w=>by kernel_rfl
  clear hown hbk h hne
  go_enter Tryz.func102,Tryz.ntmps102
  go_wp2_with fail
  go_region
  all_goals
   go_wp2_with fail
   go_ret
   exact ⟨rfl,(Below.refl _ _).drew,(Lib.OthersKept.refl _ _ _).drew⟩
 ·have hcell:∀ j x,l[j]? = some x → w.drew.cell? ((⟨g,0,none⟩:Addr).add j) = some (.int .u8 (x.toNat:Int)):=fun j x hx=>by
   have:=hown.cells (g:=g) rfl j (byteV x) (by simp [hx])
   exact this
  have hsh:w.drew.shape? g = some (5,cur.size):=by
   have hg':w.drew.heap[g]? = some (.cells cur 5 (0,0)):=hg
   simp [World.shape?,hg']
  have H:=Lib.hid hcell;have Hg:=Lib.hid hg
  clear hcell
  by_cases h0:l = []
  ·subst h0
   have hus:∀ w q,(Builtin.unsafeString_ #[207,3] 9 #[.pointer q,.int .i64 0]).run Tryz.prog w = .ok (.string .empty) w:=fun w q=>Lib.run_unsafeString_none w _ _ _ q
   by_cases hc0:cap = 0
   ·subst hc0
    have hsd:(Builtin.unsafeSliceData_ #[129] 207 #[.slice (some ⟨g,0,none⟩) 0 0]).run Tryz.prog w.drew = .ok (.pointer (some ⟨w.drew.heap.size,0,none⟩)) (w.drew.alloc (.view ⟨g,0,none⟩ 5)) :=
     Lib.run_unsafeSliceData_zero w.drew _ _ 5 Tryz.underlying207 ⟨g,0,none⟩ 0 _ hsh
    have c2:(w.drew.alloc (.view ⟨g,0,none⟩ 5)).cell? ⟨b,1,none⟩ = some (.slice (some ⟨g,0,none⟩) 0 0):=by
     have:(w.drew.alloc (.view ⟨g,0,none⟩ 5)).heap[b]? = _:=(Lib.alloc_old w.drew _ b hblt).trans hbk
     rw [Lib.cell_of_heap this];rfl
    have c3:(w.alloc (.view ⟨g,0,none⟩ 5)).drew.cell? ⟨b,1,none⟩ = some (.slice (some ⟨g,0,none⟩) 0 0):=c2
    clear hown hbk h hne hsh hg htk
    simp only [List.length_nil] at c1
    go_enter Tryz.func102,Tryz.ntmps102
    go_wp2_with fail
    go_region
    all_goals
     go_wp2_with fail
     go_ret
     exact ⟨rfl,((Below.refl _ _).drew).alloc hBw _,((Lib.OthersKept.refl _ _ _).drew).alloc _⟩
   ·have hsd:∀ w,(Builtin.unsafeSliceData_ #[129] 207 #[.slice (some ⟨g,0,none⟩) 0 cap]).run Tryz.prog w = .ok (.pointer (some ⟨g,0,none⟩)) w:=fun w=>Lib.run_unsafeSliceData_row w _ _ _ _ _ hc0
    clear hown hbk h hne hsh hg htk hc0
    simp only [List.length_nil] at c1
    go_enter Tryz.func102,Tryz.ntmps102
    go_wp2_with fail
    go_region
    all_goals
     go_wp2_with fail
     go_ret
     exact ⟨rfl,(Below.refl _ _).drew,(Lib.OthersKept.refl _ _ _).drew⟩
  ·have hl0:l.length ≠ 0:=by simpa using h0
   have hsd:∀ w,(Builtin.unsafeSliceData_ #[129] 207 #[.slice (some ⟨g,0,none⟩) l.length cap]).run Tryz.prog w = .ok (.pointer (some ⟨g,0,none⟩)) w:=fun w=>Lib.run_unsafeSliceData_row w _ _ _ _ _ (by omega)
   have hus:(Builtin.unsafeString_ #[207,3] 9 #[.pointer (some ⟨g,0,none⟩),.int .i64 l.length]).run Tryz.prog w.drew = .ok (.string ⟨l.toArray⟩) (w.drew.freeze ⟨g,0,none⟩ l.length) :=
    Lib.run_unsafeString_row w.drew 207 3 9 5 Tryz.underlying207 (by kernel_rfl) g cur.size hsh l h0 (by omega) (by unfold maxLen at hcm;omega) H.out
   clear hown hbk h hne hsh hg htk h0 hl0
   go_enter Tryz.func102,Tryz.ntmps102
   go_wp2_with fail
   go_region
   all_goals
    go_wp2_with fail
    go_ret
    exact ⟨rfl,Lib.below_freeze (Below.drew (Below.refl _ _)) (p:=⟨g,0,none⟩) hBg _,((Lib.OthersKept.refl _ _ _).drew).freeze _ _ ⟨cur,_,Hg.out⟩⟩
end Go.Proofs.YtapiabmmfmfaeaaGreatDoor
/- The walks of enc's known, Check, plain, Plain at whatever values. -/
namespace Go.Proofs.YtapiabmmfmfaeaaGreatDoor
set_option maxHeartbeats 2000000
set_option linter.unusedVariables false
open Go Go.RowKit Go.ChangeShapes
theorem IsErr.some' {w:World} {adr:Nat → Addr} {e:GErr} {v:Value} (h:IsErr w adr e v) (hn:e ≠ .nil):∃ T a,v = .iface T (.pointer (some a)) ∧ (T = 211 ∨ T = 107):=by
 cases e with
 | nil=>exact absurd rfl hn
 | sent k=>exact ⟨_,_,h.2.2,.inl rfl⟩
 | fault k p =>
  obtain ⟨_,_,b,h3,_⟩:=h
  exact ⟨_,_,h3,.inr rfl⟩
set_option maxRecDepth 100000 in
theorem known_kind (kind n:Int) (w:World) (adr:Nat → Addr) (hE:ErrsAt w adr [2,4]) (h:kind < 1 ∨ 5 < kind) :
  Calls Tryz.prog 46 #[.int .i64 kind,.int .i64 n] w fun e w'=>e = .returned (.iface 211 (.pointer (some (adr 4)))) ∧ w' = w:=by
 have e4:=hE.cell 4 (by decide)
 unfold gErr at e4
 clear hE
 by_cases h1:kind < 1
 ·clear h
  go_enter Tryz.func46,Tryz.ntmps46
  go_wp2_with fail
  go_ret
  exact ⟨rfl,rfl⟩
 ·have h5:5 < kind:=by omega
  clear h
  go_enter Tryz.func46,Tryz.ntmps46
  go_wp2_with fail
  go_ret
  exact ⟨rfl,rfl⟩
set_option maxRecDepth 100000 in
theorem known_bound (kind n:Int) (w:World) (adr:Nat → Addr) (hE:ErrsAt w adr [2,4]) (h1:1 ≤ kind) (h5:kind ≤ 5) (h:n < 0 ∨ 20000 < n) :
  Calls Tryz.prog 46 #[.int .i64 kind,.int .i64 n] w fun e w'=>e = .returned (.iface 211 (.pointer (some (adr 2)))) ∧ w' = w:=by
 have e2:=hE.cell 2 (by decide)
 unfold gErr at e2
 clear hE
 by_cases h2:n < 0
 ·clear h
  go_enter Tryz.func46,Tryz.ntmps46
  go_wp2_with fail
  go_ret
  exact ⟨rfl,rfl⟩
 ·have h3:20000 < n:=by omega
  clear h
  go_enter Tryz.func46,Tryz.ntmps46
  go_wp2_with fail
  go_ret
  exact ⟨rfl,rfl⟩
def manyErr (kind n:Int):GErr:=if kind < 1 ∨ 5 < kind then .sent 4 else if n < 0 ∨ 20000 < n then .sent 2 else .nil
theorem known_any (kind n:Int) (w:World) (adr:Nat → Addr) (hE:ErrsAt w adr [2,4]) :
  Calls Tryz.prog 46 #[.int .i64 kind,.int .i64 n] w fun e w'=>(∃ u,e = .returned u ∧ IsErr w' adr (manyErr kind n) u) ∧ w' = w:=by
 unfold manyErr
 by_cases h:kind < 1 ∨ 5 < kind
 ·rw [if_pos h]
  exact (known_kind kind n w adr hE h).mono fun e w' ⟨h1,h2⟩=>⟨⟨_,h1,by decide,by decide,rfl⟩,h2⟩
 ·rw [if_neg h]
  by_cases h':n < 0 ∨ 20000 < n
  ·rw [if_pos h']
   exact (known_bound kind n w adr hE (by omega) (by omega) h').mono fun e w' ⟨h1,h2⟩=>⟨⟨_,h1,by decide,by decide,rfl⟩,h2⟩
  ·rw [if_neg h']
   exact (known_ok kind n w (by omega) (by omega) (by omega) (by omega)).mono fun e w' ⟨h1,h2⟩=>⟨⟨_,h1,rfl⟩,h2⟩
set_option maxRecDepth 100000 in
theorem check_early (kind:Int) (v:Value) (l:List Val) (w:World) (a:Addr) (hI:IsVals w v l)
  (hK:Calls Tryz.prog 46 #[.int .i64 kind,.int .i64 (l.length:Nat)] w fun e w'=>e = .returned (.iface 211 (.pointer (some a))) ∧ w' = w) :
  Calls Tryz.prog 103 #[.int .i64 kind,v] w fun e w'=>e = .returned (.iface 211 (.pointer (some a))) ∧ Below w.heap.size w w':=by
 obtain ⟨ad,cap,rfl⟩:=hI.form
 clear hI
 go_enter Tryz.func103,Tryz.ntmps103
 go_wp2_with fail
 refine hK.mono ?_;rintro e w1 ⟨rfl,rfl⟩
 go_wp2_with fail
 go_ret
 exact ⟨rfl,Below.refl _ _⟩
set_option maxRecDepth 100000 in
theorem check_bad' (kind:Int) (v:Value) (l:List Val) (w:World) (adr:Nat → Addr) (hE:ErrsAt w adr [2,4]) (hI:IsVals w v l) (h1:1 ≤ kind) (h5:kind ≤ 5) (hl:l.length ≤ 20000) (hO:∀ x ∈ l,x.Ok)
  (i:Nat) (x:Val) (hx:l[i]? = some x) (hn:¬ OkP kind x) (hP:∀ j y,j < i → l[j]? = some y → OkP kind y) :
  Calls Tryz.prog 103 #[.int .i64 kind,v] w fun e w'=>(∃ u,e = .returned u ∧ IsErr w' adr (.fault 4 (i:Nat)) u) ∧ Below w.heap.size w w':=by
 obtain ⟨iv,hiv,hzv,hsv⟩:=val_info
 have hsz:(Tryz.prog.info? 41).map (·.size) = some (valA ⟨0,0,⟨#[]⟩⟩).size:=by rw [hiv];simp [hsv,valA]
 have hil:i < l.length:=(List.getElem?_eq_some_iff.1 hx).1
 have HI:=Lib.hid hI;have HO:=Lib.hid hO;have HP:=Lib.hid hP;have HE:=Lib.hid hE;have HX:=Lib.hid hx;have HN:=Lib.hid hn
 obtain ⟨ad,cap,rfl⟩:=hI.form
 clear hI hO hP hE hx hn
 go_enter Tryz.func103,Tryz.ntmps103
 go_wp2_with fail
 refine (known_ok kind l.length w h1 h5 (by omega) (by omega)).mono ?_;rintro e w1 ⟨rfl,rfl⟩
 go_wp2_with fail
 go_loopw [17] (fun j wr=>∃ k:Nat,k ≤ i ∧ j = .int .i64 (k:Nat) ∧ Below w1.heap.size w1 wr) (fun j _=>l.length - (intOf j).toNat)
 case atStart=>exact ⟨0,Nat.zero_le _,rfl,Below.refl _ _⟩
 case round =>
  obtain ⟨k,hk,rfl,hb⟩:=hrel
  have hlt:k < l.length:=by omega
  obtain ⟨b0,off,rfl,hq,hlt0,hc⟩:=(HI.out.below hb (Nat.le_refl _)).at (by omega)
  have hin:(k:Int) < (l.length:Int):=by omega
  by_cases hki:k < i
  ·have hcx:=hc k l[k] (List.getElem?_eq_getElem hlt)
   have hox:=HO.out l[k] (List.getElem_mem hlt)
   have hpx:=HP.out k l[k] hki (List.getElem?_eq_getElem hlt)
   generalize l[k] = y at *
   have hOK:=Lib.hid (fun w2=>ok_yes kind y hox w2 hpx)
   have Hcx:=Lib.hid hcx.cells
   clear hq hc hcx hox hpx
   go_wp2_with (first
    | (refine wpList_load_cells rfl 41 _ rfl b0 (off + k * 3) rfl (valA y) _ Hcx.out Tryz.underlying41 rfl hsz ?_)
    | (refine wpList_alloc_row rfl 41 rfl iv _ _ hiv hzv rfl ?_)
    | (refine wpList_store_new rfl rfl 41 _ _ rfl rfl _ (valA y) rfl hsz rfl (valA_one y) ?_)
    | (refine wpList_load_row rfl 41 _ rfl wr.heap.size rfl 41 (valA y) (0,0) _ (heap_alloc_last _ _) Tryz.underlying41 rfl hsz ?_))
   refine (hOK.out _).mono ?_;rintro e w2 ⟨rfl,hb2⟩
   go_wp2_with fail
   go_roundw
   case rel=>exact ⟨k + 1,by omega,by go_num,(hb.alloc hb.size _).trans (hb2.mono (by simp;have:=hb.size;omega))⟩
   case measure=>simp [intOf];omega
  ·obtain rfl:k = i:=by omega
   have hcx:=hc k x HX.out
   have hox:=HO.out x (List.mem_of_getElem? HX.out)
   have hOK:=Lib.hid (fun w2=>ok_no kind x hox w2 HN.out)
   have Hcx:=Lib.hid hcx.cells
   clear hq hc hcx hox
   go_wp2_with (first
    | (refine wpList_load_cells rfl 41 _ rfl b0 (off + k * 3) rfl (valA x) _ Hcx.out Tryz.underlying41 rfl hsz ?_)
    | (refine wpList_alloc_row rfl 41 rfl iv _ _ hiv hzv rfl ?_)
    | (refine wpList_store_new rfl rfl 41 _ _ rfl rfl _ (valA x) rfl hsz rfl (valA_one x) ?_)
    | (refine wpList_load_row rfl 41 _ rfl wr.heap.size rfl 41 (valA x) (0,0) _ (heap_alloc_last _ _) Tryz.underlying41 rfl hsz ?_))
   refine (hOK.out _).mono ?_;rintro e w2 ⟨rfl,hb2⟩
   have hbw2:Below w1.heap.size w1 w2:=(hb.alloc hb.size _).trans (hb2.mono (by simp;have:=hb.size;omega))
   have e4:=(HE.out.below hbw2).cell 4 (by decide)
   unfold gErr at e4
   go_wp2_with fail
   go_ret
   exact ⟨⟨_,rfl,by decide,by decide,_,rfl,by rw [World.cell?_alloc_at _ _ _ _ rfl];rfl,by rw [World.cell?_alloc_at _ _ _ _ rfl];rfl⟩,hbw2.alloc hbw2.size _⟩
theorem check_any (kind:Int) (v:Value) (l:List Val) (w:World) (adr:Nat → Addr) (hE:ErrsAt w adr [2,4]) (hI:IsVals w v l) (hO:∀ x ∈ l,x.Ok) :
  Calls Tryz.prog 103 #[.int .i64 kind,v] w fun e w'=>(∃ u,e = .returned u ∧ IsErr w' adr (valsErr kind l) u) ∧ Below w.heap.size w w':=by
 unfold valsErr
 by_cases h:kind < 1 ∨ 5 < kind
 ·rw [if_pos h]
  exact (check_early kind v l w _ hI (known_kind kind _ w adr hE h)).mono fun e w' ⟨h1,h2⟩=>⟨⟨_,h1,by decide,by decide,rfl⟩,h2⟩
 ·rw [if_neg h]
  by_cases h':20000 < l.length
  ·rw [if_pos h']
   exact (check_early kind v l w _ hI (known_bound kind _ w adr hE (by omega) (by omega) (.inr (by omega)))).mono fun e w' ⟨h1,h2⟩=>⟨⟨_,h1,by decide,by decide,rfl⟩,h2⟩
  ·rw [if_neg h']
   cases hb:badAt kind l 0 with
   | none=>exact (check_vals kind v l w hI (by omega) (by omega) (by omega) hO ((badAt_none kind l 0).1 hb)).mono fun e w' ⟨h1,h2⟩=>⟨⟨_,h1,rfl⟩,h2⟩
   | some i =>
    obtain ⟨q,x,hj,hx,hn,hP⟩:=badAt_some kind l 0 i hb
    obtain rfl:i = q:=by omega
    exact check_bad' kind v l w adr hE hI (by omega) (by omega) (by omega) hO i x hx hn hP
theorem text_none (B b:Nat) (w:World) (h:BitsAt B b 0 0 w) :
  Calls Tryz.prog 113 #[.pointer (some ⟨b,0,none⟩)] w fun e w'=>e = .returned (.string ⟨#[]⟩) ∧ w' = w:=text_bits B b 0 0 w h
set_option maxRecDepth 100000 in
theorem plain_texts (v:Value) (l:List Val) (w:World) (hI:IsVals w v l) (hl:l.length ≤ 20000) (hP:∀ x ∈ l,x.s.size ≤ 100) :
  Calls Tryz.prog 104 #[.int .i64 4,v] w fun e w'=>e = .returned (.string ⟨(textsB l).toArray⟩) ∧ Below w.heap.size w w':=by
 obtain ⟨iv,hiv,hzv,hsv⟩:=val_info
 have hsz:(Tryz.prog.info? 41).map (·.size) = some (valA ⟨0,0,⟨#[]⟩⟩).size:=by rw [hiv];simp [hsv,valA]
 have hBd0:BuildAt w.heap.size w.heap.size [] ((w.alloc (.cells #[.pointer none,.slice none 0 0] 170)).alloc (.cells #[.slice none 0 0,.int .i64 0] 187)) :=
  (BuildAt.fresh w).below ((Below.refl _ _).alloc (Nat.le_refl _) _)
 have hbk0:((w.alloc (.cells #[.pointer none,.slice none 0 0] 170)).alloc (.cells #[.slice none 0 0,.int .i64 0] 187)).heap[w.heap.size + 1]? = some (.cells #[.slice none 0 0,.int .i64 0] 187 (0,0)):=by
  simpa using heap_alloc_new (w.alloc (.cells #[.pointer none,.slice none 0 0] 170)) (.cells #[.slice none 0 0,.int .i64 0] 187)
 have hsz2:((w.alloc (.cells #[.pointer none,.slice none 0 0] 170)).alloc (.cells #[.slice none 0 0,.int .i64 0] 187)).heap.size = w.heap.size + 2:=by simp
 have hbw:Below w.heap.size w ((w.alloc (.cells #[.pointer none,.slice none 0 0] 170)).alloc (.cells #[.slice none 0 0,.int .i64 0] 187)):=((Below.refl _ _).alloc (Nat.le_refl _) _).alloc (by simp) _
 have HI:=Lib.hid hI;have HP:=Lib.hid hP;have HBd:=Lib.hid hBd0;have Hbk:=Lib.hid hbk0;have Hsz2:=Lib.hid hsz2;have Hbw:=Lib.hid hbw
 obtain ⟨ad,cap,rfl⟩:=hI.form
 clear hI hP hBd0 hbk0 hsz2 hbw
 go_enter Tryz.func104,Tryz.ntmps104
 go_wp2_with fail
 generalize (w.alloc (.cells #[.pointer none,.slice none 0 0] 170)).alloc (.cells #[.slice none 0 0,.int .i64 0] 187) = W2 at *
 go_loopw [11] (fun i wr=>∃ k:Nat,k ≤ l.length ∧ i = .int .i64 (k:Nat) ∧ BuildAt w.heap.size w.heap.size (textsB (l.take k)) wr ∧ wr.heap[w.heap.size + 1]? = some (.cells #[.slice none 0 0,.int .i64 0] 187 (0,0)) ∧ Below w.heap.size w wr) (fun i _=>l.length - (intOf i).toNat)
 case atStart=>exact ⟨0,Nat.zero_le _,rfl,by simpa [textsB] using HBd.out,Hbk.out,Hbw.out⟩
 case round =>
  obtain ⟨k,hkl,rfl,hbd,hbk,hb⟩:=hrel
  have Hbd:=Lib.hid hbd;have Hbk:=Lib.hid hbk;have Hb:=Lib.hid hb
  by_cases hlt:k < l.length
  ·obtain ⟨b0,off,rfl,hq,hlt0,hc⟩:=(HI.out.below hb (Nat.le_refl _)).at (by omega)
   have hcx:=hc k l[k] (List.getElem?_eq_getElem hlt)
   have hpx:=HP.out l[k] (List.getElem_mem hlt)
   have hn:textsB (l.take (k + 1)) = textsB (l.take k) ++ textOf l[k].s.data.toList:=by
    rw [List.take_succ_eq_append_getElem hlt];exact flat_snoc _ _ _
   have htl:=texts_len (l.take k) fun x hx=>HP.out x (List.mem_of_mem_take hx)
   rw [List.length_take] at htl
   generalize l[k] = x at *
   have Hcx:=Lib.hid hcx.cells
   have hin:(k:Int) < (l.length:Int):=by omega
   have c2:(wr.alloc (.cells (valA x) 41)).cell? ⟨wr.heap.size,2,none⟩ = some (.string x.s):=by rw [World.cell?_alloc_at _ _ _ _ rfl];rfl
   have hxl:=textOf_len x.s.data.toList (by rw [size_data];exact hpx)
   rw [size_data] at hxl
   have HT:=Lib.hid (fun w3=>text_any x.s w3 (by omega))
   have HW:=Lib.hid (fun w3 h h3=>writeString_any w.heap.size w.heap.size (textsB (l.take k)) (textOf x.s.data.toList) w3 h (by omega) h3)
   have Hn:=Lib.hid hn
   clear hq hc hcx hn hbd hbk hb hpx hxl htl
   go_wp2_with (first
     | (refine wpList_load_cells rfl 41 _ rfl b0 (off + k * 3) rfl (valA x) _ Hcx.out Tryz.underlying41 rfl hsz ?_)
     | (refine wpList_alloc_row rfl 41 rfl iv _ _ hiv hzv rfl ?_)
     | (refine wpList_store_new rfl rfl 41 _ _ rfl rfl _ (valA x) rfl hsz rfl (valA_one x) ?_))
   refine (HT.out _).mono ?_;rintro e w3 ⟨rfl,hb3⟩
   have hb3':Below wr.heap.size wr w3:=((Below.refl wr.heap.size wr).alloc (Nat.le_refl _) _).trans (hb3.mono (by simp))
   have Hb3:=Lib.hid hb3'
   clear hb3 hb3'
   go_wp2_with fail
   refine (HW.out w3 (Hbd.out.below Hb3.out) (by have:=Hb3.out.size;have:=Hb.out.size;omega)).mono ?_;rintro e w4 ⟨rfl,hbd4,hb4,hk4⟩
   have hbk4:=hk4 (w.heap.size + 1) _ ((Hb3.out.block _ (Array.getElem?_eq_some_iff.1 Hbk.out).1).trans Hbk.out) (by simp) (by intro c fz h;injection h with _ h2 _;exact absurd h2 (by decide))
   have Hbd4:=Lib.hid hbd4;have Hbk4:=Lib.hid hbk4;have Hb4:=Lib.hid hb4
   clear hbd4 hbk4 hb4 hk4
   go_wp2_with fail
   go_roundw
   case rel=>exact ⟨k + 1,by omega,by go_num,by rw [Hn.out];exact Hbd4.out,Hbk4.out,(Hb.out.trans (Hb3.out.mono Hb.out.size)).trans Hb4.out⟩
   case measure=>simp [intOf];omega
  ·obtain rfl:k = l.length:=by omega
   rw [List.take_length] at Hbd
   have HS:=Lib.hid (fun w3 h h3=>builderString_kept w.heap.size w.heap.size (textsB l) w3 h h3)
   have HB:=Lib.hid (fun w3 h=>text_none (w.heap.size + 1) (w.heap.size + 1) w3 h)
   have htl:=texts_len l HP.out
   have htl2:(textsB l).length ≤ 2020000:=by omega
   generalize hT:textsB l = T at *
   have HTT:=Lib.hid hT
   clear hbd hbk hb hT
   go_wp2_with fail
   refine (HS.out wr Hbd.out Hb.out.size).mono ?_;rintro e w3 ⟨rfl,hb3,hk3⟩
   have hbk3:=hk3 (w.heap.size + 1) _ Hbk.out (by simp) (by intro c fz h;injection h with _ h2 _;exact absurd h2 (by decide))
   have Hb3:=Lib.hid hb3;have Hbk3:=Lib.hid hbk3
   clear hb3 hk3 hbk3
   go_wp2_with fail
   refine (HB.out w3 ⟨Nat.le_refl _,.slice none 0 0,Hbk3.out,World.ownsRow_nil _ _ _ _⟩).mono ?_;rintro e w4 ⟨rfl,rfl⟩
   go_wp2_with fail
   go_ret
   exact ⟨ret_of (by
    show Value.string (ByteArray.mk T.toArray ++ ByteArray.mk #[]) = _
    rw [ByteArray.mk_append_mk,HTT.out]
    simp),Hb.out.trans Hb3.out⟩
theorem plain_right (kind:Int) (v:Value) (l:List Val) (w:World) (hI:IsVals w v l) (hl:l.length ≤ 20000) (hO:∀ x ∈ l,x.Ok) (h1:1 ≤ kind) (h5:kind ≤ 5) (hP:∀ x ∈ l,OkP kind x) :
  Calls Tryz.prog 104 #[.int .i64 kind,v] w fun e w'=>e = .returned (.string ⟨(plainB kind l).toArray⟩) ∧ Below w.heap.size w w':=by
 unfold plainB
 by_cases h4:kind = 4
 ·subst h4
  rw [if_pos rfl]
  exact plain_texts v l w hI hl fun x hx=>((hP x hx).text rfl).2
 ·rw [if_neg h4]
  exact plain_nums kind _ (wdOf_is h1 h5 h4) v l w hI hl hO
set_option maxRecDepth 100000 in
theorem Plain_err (kind:Int) (v:Value) (l:List Val) (w:World) (adr:Nat → Addr) (hE:ErrsAt w adr [2,4]) (hI:IsVals w v l) (hO:∀ x ∈ l,x.Ok) (hn:valsErr kind l ≠ .nil) :
  Calls Tryz.prog 123 #[.int .i64 kind,v] w fun e w'=>(∃ u,e = .returned (.tuple #[.string ⟨#[]⟩,u]) ∧ IsErr w' adr (valsErr kind l) u) ∧ Below w.heap.size w w':=by
 have HC:=Lib.hid (check_any kind v l w adr hE hI hO)
 have HN:=Lib.hid hn
 obtain ⟨ad,cap,rfl⟩:=hI.form
 clear hI hO hE hn
 go_enter Tryz.func123,Tryz.ntmps123
 go_wp2_with fail
 refine HC.out.mono ?_;rintro e w1 ⟨⟨u,rfl,hu⟩,hb1⟩
 have HU:=Lib.hid hu
 obtain ⟨T,a,rfl,hT⟩:=hu.some' HN.out
 clear hu
 rcases hT with rfl | rfl
 all_goals
  go_wp2_with fail
  go_ret2
  exact ⟨⟨_,rfl,HU.out⟩,hb1⟩
set_option maxRecDepth 100000 in
theorem Plain_ok (kind:Int) (v:Value) (l:List Val) (w:World) (adr:Nat → Addr) (hE:ErrsAt w adr [2,4]) (hI:IsVals w v l) (hO:∀ x ∈ l,x.Ok) (hn:valsErr kind l = .nil) :
  Calls Tryz.prog 123 #[.int .i64 kind,v] w fun e w'=>e = .returned (.tuple #[.string ⟨(plainB kind l).toArray⟩,.nilIface]) ∧ Below w.heap.size w w':=by
 obtain ⟨h1,h5,hl,hP⟩:=valsErr_nil hn
 have HC:=Lib.hid (check_vals kind v l w hI h1 h5 hl hO hP)
 have HQ:=Lib.hid (fun w1 (h:Below w.heap.size w w1)=>plain_right kind v l w1 (hI.below h (Nat.le_refl _)) hl hO h1 h5 hP)
 obtain ⟨ad,cap,rfl⟩:=hI.form
 clear hI hO hE hn h1 h5 hP
 go_enter Tryz.func123,Tryz.ntmps123
 go_wp2_with fail
 refine HC.out.mono ?_;rintro e w1 ⟨rfl,hb1⟩
 go_wp2_with fail
 refine (HQ.out w1 hb1).mono ?_;rintro e w2 ⟨rfl,hb2⟩
 go_wp2_with fail
 go_ret2
 exact ⟨rfl,below_trans hb1 hb2⟩
end Go.Proofs.YtapiabmmfmfaeaaGreatDoor
