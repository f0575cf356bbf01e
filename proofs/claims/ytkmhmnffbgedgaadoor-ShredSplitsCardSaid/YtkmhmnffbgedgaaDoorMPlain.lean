/- Merged texts: K, IntM, LoadC, Cells, Wire1, Wire4, Wire9, Bits1, Bits2, Bits3, Enc1, Runs1, Runs2, Canon. -/
import Derived.WalkKit
import Derived.WalkSpells
import Derived.WalkLawsBesides
import Derived.Lib.Hide
import Derived.Handy
import Derived.Laws.Rows
import Derived.Deep.WholeRow
/- General lemmas for walks, over any program: bytes in memory that the call owns, appended to one by one, read as a string. -/
namespace Go.Proofs.YtkmhmnffbgedgaaDoor
open Go Go.RowKit
theorem ret_of {v v':Value} (h:v = v'):Ending.returned v = .returned v':=by rw [h]
theorem one_map {α:Type} {f:α → Value} (hf:∀ x,(f x).oneCell' = true) (l:List α):∀ u ∈ l.map f,u.oneCell' = true:=by
 intro u hu
 obtain ⟨x,_,rfl⟩:=List.mem_map.1 hu
 exact hf x
theorem wpList_push {P:Program} {wr:World} {ops:Array Oper} {rest:List Oper} {o:Oper} {a:Act} {Q:Exit → Act → World → Prop} (hg:o.guard = none) (s x:Operand) (t:TypeId)
  (ho:o.op = .call { callee:=.builtin .append,args:=#[s,x],argTypes:=#[t,t] })
  (base:Nat) (e:TypeId) (i:TypeInfo) (z:Value) (bytes:Nat) (ht:P.underlying t = some (.slice e)) (hi:P.info? e = some i) (hz:i.zero = some z)
  (hsize:i.size = 1) (hby:i.bytes = bytes) (hzs:z.cells.size = 1)
  {α:Type} (f:α → Value) (hf:∀ y,(f y).oneCell' = true)
  (v:Value) (l:List α) (hs:a.eval s = v) (hown:wr.ownsRow base e 1 v l.length (l.map f)) (e':TypeId) (u:Value) (hx:a.eval x = .slice (some ⟨wr.heap.size,0,none⟩) 1 1)
  (h63:l.length + 1 ≤ maxLen) (hbytes:(l.length + 1) * bytes ≤ 140737488355328) (hbase:base ≤ wr.heap.size) (y:α) (hu:u = f y)
  (h:∀ v' w',w'.ownsRow base e 1 v' (l ++ [y]).length ((l ++ [y]).map f) → Below base wr w' → v' ≠ .slice none 0 0 → wpList P ops Q rest (a.put o.dst v') w') :
  wpList P ops Q (o :: rest) a (wr.alloc (.cells #[u] e')):=by
 subst hu
 refine wpList_append_own _ hg s x t ho base e i z 1 bytes ht hi hz hsize hby hzs (by omega) v l.length (l.map f) hs (hown.alloc _) ⟨wr.heap.size,0,none⟩ 1 1 [f y] hx (by simp) ?_ ?_ h63 hbytes (by simp;omega) ?_
 ·intro j u hj
  cases j with
  | zero=>simp at hj;subst hj;simp [go_sem]
  | succ j=>simp at hj
 ·intro u hu;simp at hu;subst hu;exact hf y
 ·intro v' w' h1 h2 h3
  refine h v' w' (by simpa using h1) ?_ (by rw [Ne,h3];simp)
  refine (((Below.refl _ _).alloc hbase _).grown h2 (by simp;omega) ?_)
  intro k hk
  exact (hown.lt k hk).1
theorem ba_mk (s:ByteArray):(ByteArray.mk s.data.toList.toArray) = s:=by simp
theorem bcell {W w1:World} {B:Nat} (hb:Below B W w1):(∀ b o,b < B → w1.cell? ⟨b,o,none⟩ = W.cell? ⟨b,o,none⟩) ∧ (∀ b o,b < B → w1.frozen? ⟨b,o,none⟩ = W.frozen? ⟨b,o,none⟩) :=
 ⟨fun b o h=>hb.cell (p:=⟨b,o,none⟩) h,fun b o h=>hb.frozen (p:=⟨b,o,none⟩) h⟩
end Go.Proofs.YtkmhmnffbgedgaaDoor
/- Slices of numbers in memory. -/
namespace Go.Proofs.YtkmhmnffbgedgaaDoor
open Go Go.RowKit Go.ChangeShapes
def IsNums (K:IntKind) (w:World) (v:Value) (l:List Int):Prop :=
 (l = [] ∧ ∃ ad cap,v = .slice ad 0 cap) ∨ (∃ b off cap,v = .slice (some ⟨b,off,none⟩) l.length cap ∧ b < w.heap.size ∧ ∀ j x,l[j]? = some x → w.cell? ⟨b,off + j,none⟩ = some (.int K x))
abbrev IsInts:=IsNums .i64
def Fits (l:List Int):Prop:=l.length ≤ maxLen ∧ ∀ x ∈ l,-9223372036854775808 ≤ x ∧ x < 9223372036854775808
theorem IsNums.below {K:IntKind} {w w':World} {v:Value} {l:List Int} {B:Nat} (h:IsNums K w v l) (hb:Below B w w') (hB:w.heap.size ≤ B):IsNums K w' v l:=by
 rcases h with h | ⟨b,off,cap,rfl,hlt,hc⟩
 ·exact .inl h
 ·exact .inr ⟨b,off,cap,rfl,by have:=hb.size;omega,fun j x hj=>(hb.cell (p:=⟨b,off + j,none⟩) (by show b < B;omega)).trans (hc j x hj)⟩
theorem IsNums.form {K:IntKind} {w:World} {v:Value} {l:List Int} (h:IsNums K w v l):∃ ad cap,v = .slice ad l.length cap:=by
 rcases h with ⟨rfl,h⟩ | ⟨b,off,cap,rfl,_⟩
 ·exact h
 ·exact ⟨_,_,rfl⟩
theorem IsNums.at {K:IntKind} {w:World} {ad:Option Addr} {n cap:Nat} {l:List Int} (h:IsNums K w (.slice ad n cap) l) (hl:0 < l.length) :
  ∃ b off,ad = some ⟨b,off,none⟩ ∧ n = l.length ∧ b < w.heap.size ∧ ∀ j x,l[j]? = some x → w.cell? ⟨b,off + j,none⟩ = some (.int K x):=by
 rcases h with ⟨rfl,_⟩ | ⟨b,off,cap',he,hlt,hc⟩
 ·simp at hl
 ·injection he with e1 e2 e3
  exact ⟨b,off,e1,e2,hlt,hc⟩
theorem IsNums.of_own {K:IntKind} {w:World} {B:Nat} {e:TypeId} {v:Value} {l:List Int} (h:w.ownsRow B e 1 v l.length (l.map fun x=>.int K x)):IsNums K w v l:=by
 rcases h.2 with ⟨rfl,h0⟩ | ⟨g,cap,cur,rfl,_,hg,_,_,_,_⟩
 ·exact .inl ⟨List.eq_nil_of_length_eq_zero h0,none,0,rfl⟩
 ·refine .inr ⟨g,0,cap,rfl,(Array.getElem?_eq_some_iff.1 hg).1,fun j x hj=>?_⟩
  have hlt:j < l.length:=(List.getElem?_eq_some_iff.1 hj).1
  have:=h.cellAt j (by omega)
  rw [Nat.zero_add,this]
  simp [hj]
end Go.Proofs.YtkmhmnffbgedgaaDoor
/- Structs loaded out of a block, stored into a new one; over any program. -/
namespace Go.Proofs.YtkmhmnffbgedgaaDoor
set_option linter.unusedVariables false
open Go Go.RowKit Go.ChangeShapes
theorem run_loadVar_cells {P:Program} (w:World) (b f:Nat) (ty:TypeId) (cs:Array Value) (d:TypeDesc) (hc:∀ j v,cs[j]? = some v → w.cell? ⟨b,f + j,none⟩ = some v)
  (hu:P.underlying ty = some d) (hd:(match d with | .struct _ | .array _ _=>true | _=>false) = true) (hi:(P.info? ty).map (·.size) = some cs.size) :
  (loadVar ty ⟨b,f,none⟩).run P w = .ok (.agg cs) w:=by
 have hl:(loadCells ⟨b,f,none⟩ cs.toList.length).run P w = .ok cs.toList.toArray w :=
  run_loadCells_list (P:=P) w ⟨b,f,none⟩ cs.toList (fun j v hv=>by
   rw [Go.WideShapes.add_plain]
   exact hc j v (by simpa using hv))
 cases hq:P.info? ty with
 | none=>simp [hq] at hi
 | some i =>
  have hs:i.size = cs.size:=by simpa [hq] using hi
  have hagg:(isAgg ty).run P w = .ok true w:=by
   unfold isAgg
   rw [Sem.run_bind,run_underlying hu w]
   cases d <;> simp_all
  simp only [Array.length_toList,Array.toArray_toList] at hl
  simp [loadVar,Sem.run_bind,hagg,sizeOf,typeInfo,hq,hs,hl]
theorem wpList_load_cells {P:Program} {w:World} {ops:Array Oper} {rest:List Oper} {o:Oper} {a:Act} {Q:Exit → Act → World → Prop} (hgd:o.guard = none) (ty:TypeId) (x:Operand) (ho:o.op = .load ty x)
  (b f:Nat) (hx:a.eval x = .pointer (some ⟨b,f,none⟩)) (cs:Array Value) (d:TypeDesc) (hc:∀ j v,cs[j]? = some v → w.cell? ⟨b,f + j,none⟩ = some v)
  (hu:P.underlying ty = some d) (hd:(match d with | .struct _ | .array _ _=>true | _=>false) = true) (hi:(P.info? ty).map (·.size) = some cs.size)
  (h:wpList P ops Q rest (a.put o.dst (.agg cs)) w):wpList P ops Q (o :: rest) a w:=by
 refine wpList_plain hgd fun K hK=>?_
 unfold Oper.wp execOp
 simp only [ho,hx,Instr.loadAt,Instr.sureAddr,Sem.run_bind,Sem.run_pure,Result.andThen_ok,run_loadVar_cells w b f ty cs d hc hu hd hi]
 exact hK _ _ h
theorem wpList_store_new {P:Program} {w:World} {ops:Array Oper} {rest:List Oper} {o:Oper} {a:Act} {Q:Exit → Act → World → Prop} (hgd:o.guard = none) (hd:o.dst = none) (ty:TypeId) (x v:Operand) (ho:o.op = .store ty x v)
  (hx:a.eval x = .pointer (some ⟨w.heap.size,0,none⟩)) (old cells:Array Value) (hv:a.eval v = .agg cells)
  (hi:(P.info? ty).map (·.size) = some cells.size) (hs:old.size = cells.size) (h1:cells.all (·.oneCell') = true)
  (h:wpList P ops Q rest a (w.alloc (.cells cells ty))):wpList P ops Q (o :: rest) a (w.alloc (.cells old ty)):=by
 refine wpList_plain hgd fun K hK=>?_
 have hr:=run_storeVar_new (P:=P) w ty old cells hi hs h1
 unfold Oper.wp execOp
 simp [ho,hx,hv,Instr.storeAt,Instr.sureAddr,hr,Result.andThen,Oper.upon_skip,Act.put,hd]
 exact hK _ _ h
theorem run_append_none {P:Program} (w:World) (t ty e k:TypeId) (i:TypeInfo) (ht:P.underlying t = some (.slice e)) (hi:P.info? e = some i) (b:Option Addr) (n c:Nat) (x:Option Addr) (c':Nat) (hc:n ≤ c) :
  (Builtin.append_ #[t,t] ty #[.slice b n c,.slice x 0 c']).run P w = .ok (.slice b n c) w:=by
 cases b <;> cases x <;> simp [Builtin.append_,run_underlying ht,sizeOf,typeInfo,hi,Builtin.lenOf,hc,Builtin.firstCells,loadCells,loadCellsFrom,storeCells]
end Go.Proofs.YtkmhmnffbgedgaaDoor
/- Whole rows of cells: laid, loaded, stored. -/
namespace Go.Proofs.YtkmhmnffbgedgaaDoor
open Go Go.RowKit
theorem wpList_alloc_row {P:Program} {w:World} {ops:Array Oper} {rest:List Oper} {o:Oper} {a:Act} {Q:Exit → Act → World → Prop} (hg:o.guard = none) (ty:TypeId) (ho:o.op = .alloc ty)
  (i:TypeInfo) (z:Value) (zc:Array Value) (hi:P.info? ty = some i) (hz:i.zero = some z) (hzc:z.cells = zc)
  (h:wpList P ops Q rest (a.put o.dst (.pointer (some ⟨w.heap.size,0,none⟩))) (w.alloc (.cells zc ty))):wpList P ops Q (o :: rest) a w:=by
 subst hzc
 refine wpList_plain hg fun K hK=>?_
 unfold Oper.wp execOp
 simp only [ho,Instr.alloc,zeroValue,typeInfo,newVar,newRow,newObj]
 simp [hi,hz,Result.andThen]
 exact hK _ _ h
end Go.Proofs.YtkmhmnffbgedgaaDoor
/- Chapter 1 in plain Lean: numbers as bytes. -/
namespace Go.Proofs.YtkmhmnffbgedgaaDoor
def seven (n:Nat):List UInt8:=if n < 128 then [UInt8.ofNat n] else UInt8.ofNat (n % 128 + 128) :: seven (n / 128)
termination_by n
end Go.Proofs.YtkmhmnffbgedgaaDoor
/- Chapter 1 in plain Lean: reading numbers and texts. -/
namespace Go.Proofs.YtkmhmnffbgedgaaDoor
def textOf (s:List UInt8):List UInt8:=seven s.length ++ s
end Go.Proofs.YtkmhmnffbgedgaaDoor
/- Chapter 1 in plain Lean: a number in so many bytes. -/
namespace Go.Proofs.YtkmhmnffbgedgaaDoor
def little:Nat → Nat → List UInt8
 | 0,_=>[]
 | k + 1,n=>UInt8.ofNat (n % 256) :: little k (n / 256)
end Go.Proofs.YtkmhmnffbgedgaaDoor
/- Chapter 2 in plain Lean: bits one behind the other, as a number. -/
namespace Go.Proofs.YtkmhmnffbgedgaaDoor
def bytesOf (m V:Nat):List UInt8:=little ((m + 7) / 8) V
def packN (w:Nat):List Nat → Nat
 | []=>0
 | n :: l=>n + 2 ^ w * packN w l
def packed (w:Nat) (l:List Nat):List UInt8:=bytesOf (l.length * w) (packN w l)
end Go.Proofs.YtkmhmnffbgedgaaDoor
/- Chapter 2 in plain Lean: the document's list of bits, and the number that they are. -/
namespace Go.Proofs.YtkmhmnffbgedgaaDoor
end Go.Proofs.YtkmhmnffbgedgaaDoor
/- Chapter 2 in plain Lean: bits read back. -/
namespace Go.Proofs.YtkmhmnffbgedgaaDoor
end Go.Proofs.YtkmhmnffbgedgaaDoor
/- Chapter 3 in plain Lean: values and their order. -/
namespace Go.Proofs.YtkmhmnffbgedgaaDoor
set_option linter.unusedVariables false
open Go
open Go.Op (bytesLess)
structure Val where
 k:Int
 n:Int
 s:ByteArray
def Val.val (x:Val):Value:=.agg #[.int .i64 x.k,.int .i64 x.n,.string x.s]
structure Val.Ok (x:Val):Prop where
 k0:-9223372036854775808 ≤ x.k
 k1:x.k < 9223372036854775808
 n0:-9223372036854775808 ≤ x.n
 n1:x.n < 9223372036854775808
 s1:x.s.size ≤ maxLen
theorem empty_list {s:ByteArray} (h:s.size = 0):s = ⟨#[]⟩:=by
 cases s with
 | mk a=>congr 1;exact Array.eq_empty_of_size_eq_zero h
theorem toList_inj {s t:ByteArray} (h:s.toList = t.toList):s = t:=by
 rw [ByteArray.toList_eq,ByteArray.toList_eq] at h
 cases s;cases t;congr 1;exact Array.toList_inj.1 h
end Go.Proofs.YtkmhmnffbgedgaaDoor
/- Chapter 2 in plain Lean: runs of numbers. -/
namespace Go.Proofs.YtkmhmnffbgedgaaDoor
set_option linter.unusedVariables false
def headRun:List Nat → Nat
 | []=>0
 | a :: l=>(l.takeWhile (· == a)).length + 1
theorem headRun_pos (a:Nat) (l:List Nat):0 < headRun (a :: l):=by simp [headRun]
def pad8 (l:List Nat):List Nat:=l.take 8 ++ List.replicate (8 - l.length) 0
def sizeB (wd:Nat):Nat:=(wd + 7) / 8
def flush (wd:Nat) (o:List Nat):List UInt8:=if o = [] then [] else seven (2 * (o.length / 8) + 1) ++ packed wd o
def runsB (wd:Nat) (l o:List Nat):List UInt8 :=
 match l with
 | []=>flush wd o
 | a :: l=>if 8 ≤ headRun (a :: l) then flush wd o ++ (seven (2 * headRun (a :: l)) ++ little (sizeB wd) a ++ runsB wd ((a :: l).drop (headRun (a :: l))) [])
  else runsB wd ((a :: l).drop 8) (o ++ pad8 (a :: l))
termination_by l.length
decreasing_by
 ·simp only [List.length_drop,List.length_cons];have:=headRun_pos a l;omega
 ·simp only [List.length_drop,List.length_cons];omega
end Go.Proofs.YtkmhmnffbgedgaaDoor
/- Chapter 2 in plain Lean: what is written as runs is read. -/
namespace Go.Proofs.YtkmhmnffbgedgaaDoor
set_option linter.unusedVariables false
end Go.Proofs.YtkmhmnffbgedgaaDoor
/- Chapter 1 in plain Lean: what is read as a number, a text, is what is written. -/
namespace Go.Proofs.YtkmhmnffbgedgaaDoor
end Go.Proofs.YtkmhmnffbgedgaaDoor
