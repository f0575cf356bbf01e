/- Merged texts: K, Cells, Wire1, Wire4, Wire9, Bits1, Bits2, Bits3, Enc1, Runs1, Runs2, Canon. -/
import Derived.WalkKit
import Derived.WalkSpells
import Derived.WalkLawsBesides
import Derived.Lib.Hide
import Derived.Handy
/- General lemmas for walks, over any program: bytes in memory that the call owns, appended to one by one, read as a string. -/
namespace Go.Proofs.YtapiabmmfmfaeaaGreatDoor
open Go Go.RowKit
def byteV (b:UInt8):Value:=.int .u8 (b.toNat:Int)
theorem byteV_one (b:UInt8):(byteV b).oneCell' = true:=rfl
theorem ret_of {v v':Value} (h:v = v'):Ending.returned v = .returned v':=by rw [h]
theorem str_of {l l':List UInt8} (h:l = l'):Value.string ⟨l.toArray⟩ = .string ⟨l'.toArray⟩:=by rw [h]
theorem one_map {α:Type} {f:α → Value} (hf:∀ x,(f x).oneCell' = true) (l:List α):∀ u ∈ l.map f,u.oneCell' = true:=by
 intro u hu
 obtain ⟨x,_,rfl⟩:=List.mem_map.1 hu
 exact hf x
theorem wpList_push {P:Program} {wr:World} {ops:Array Oper} {rest:List Oper} {o:Oper} {a:Act} {Q:Exit → Act → World → Prop} (hg:o.guard = none) (s x:Operand) (t:TypeId)
  (ho:o.op = .call { callee:=.builtin .append,args:=#[s,x],argTypes:=#[t,t] })
  (base:Nat) (e:TypeId) (i:TypeInfo) (z:Value) (bytes:Nat) (ht:P.underlying t = some (.slice e)) (hi:P.info? e = some i) (hz:i.zero = some z)
  (hsize:i.size = 1) (hby:i.bytes = bytes) (hzs:z.cells.size = 1)
  {α:Type} (f:α → Value) (hf:∀ y,(f y).oneCell' = true)
  (v:Value) (l:List α) (hs:a.eval s = v) (hown:wr.ownsRow base e 1 v l.length (l.map f)) (e':TypeId) (u:Value) (hx:a.eval x = .slice (some ⟨wr.heap.size,0,none⟩) 1 1)
  (h63:l.length + 1 ≤ maxLen) (hbytes:(l.length + 1) * bytes ≤ 140737488355328) (hbase:base ≤ wr.heap.size) (y:α) (hu:u = f y)
  (h:∀ v' w',w'.ownsRow base e 1 v' (l ++ [y]).length ((l ++ [y]).map f) → Below base wr w' → v' ≠ .slice none 0 0 → wpList P ops Q rest (a.put o.dst v') w') :
  wpList P ops Q (o :: rest) a (wr.alloc (.cells #[u] e')):=by
 subst hu
 refine wpList_append_own _ hg s x t ho base e i z 1 bytes ht hi hz hsize hby hzs (by omega) v l.length (l.map f) hs (hown.alloc _) ⟨wr.heap.size,0,none⟩ 1 1 [f y] hx (by simp) ?_ ?_ h63 hbytes (by simp;omega) ?_
 ·intro j u hj
  cases j with
  | zero=>simp at hj;subst hj;simp [go_sem]
  | succ j=>simp at hj
 ·intro u hu;simp at hu;subst hu;exact hf y
 ·intro v' w' h1 h2 h3
  refine h v' w' (by simpa using h1) ?_ (by rw [Ne,h3];simp)
  refine (((Below.refl _ _).alloc hbase _).grown h2 (by simp;omega) ?_)
  intro k hk
  exact (hown.lt k hk).1
theorem run_own_string {P:Program} {w:World} {src dst e:TypeId} {base:Nat} {v:Value} {l:List UInt8}
  (hs:P.underlying src = some (.slice e)) (he:P.underlying e = some (.int .u8)) (hd:P.underlying dst = some .string)
  (hown:w.ownsRow base e 1 v l.length (l.map byteV)):(convert src dst v).run P w = .ok (.string ⟨l.toArray⟩) w:=by
 rcases hown.2 with ⟨rfl,hn⟩ | ⟨g,cap,cur,rfl,hr⟩
 ·have:l = []:=List.eq_nil_of_length_eq_zero hn
  subst this
  rw [run_convert_bytes_string w src dst e none _ _ hs he hd]
  simp [Conv.bytesToString]
  rfl
 ·refine run_convert_bytes_back w src dst e _ cap l hs he hd fun j hj=>?_
  have h2:=hown.cellAt j (by omega)
  rw [Addr.add_lit,Nat.zero_add,h2]
  simp [hj,byteV]
theorem run_lit_string {P:Program} {src dst e:TypeId} (w:World) (n:Int) (hs:P.underlying src = some (.slice e)) (he:P.underlying e = some (.int .u8)) (hd:P.underlying dst = some .string)
  (h0:0 ≤ n) (h1:n < 256) :
  (convert src dst (.slice (some ⟨w.heap.size,0,none⟩) 1 1)).run P (w.alloc (.cells #[.int .u8 n] e)) = .ok (.string ⟨#[UInt8.ofNat n.toNat]⟩) (w.alloc (.cells #[.int .u8 n] e)):=by
 have hb:(.int .u8 n:Value) = byteV (UInt8.ofNat n.toNat):=by
  unfold byteV
  rw [UInt8.toNat_ofNat',Nat.mod_eq_of_lt (by omega),Int.toNat_of_nonneg h0]
 rw [hb]
 exact run_own_string (base:=0) (l:=[UInt8.ofNat n.toNat]) hs he hd (World.ownsRow_lit w #[byteV (UInt8.ofNat n.toNat)] 1 (Nat.zero_le _) (by decide) rfl)
theorem ba_extract (s:ByteArray) (a b:Nat):s.extract a b = ⟨((s.data.toList.drop a).take (b - a)).toArray⟩:=by
 have h:=ByteArray.extract_mk s.data.toList a b
 rwa [show (ByteArray.mk s.data.toList.toArray) = s by simp] at h
theorem bcell {W w1:World} {B:Nat} (hb:Below B W w1):(∀ b o,b < B → w1.cell? ⟨b,o,none⟩ = W.cell? ⟨b,o,none⟩) ∧ (∀ b o,b < B → w1.frozen? ⟨b,o,none⟩ = W.frozen? ⟨b,o,none⟩) :=
 ⟨fun b o h=>hb.cell (p:=⟨b,o,none⟩) h,fun b o h=>hb.frozen (p:=⟨b,o,none⟩) h⟩
theorem below_trans {w w1 w2:World} (h:Below w.heap.size w w1) (k:Below w1.heap.size w1 w2):Below w.heap.size w w2:=h.trans (k.mono h.size)
end Go.Proofs.YtapiabmmfmfaeaaGreatDoor
/- Whole rows of cells: laid, loaded, stored. -/
namespace Go.Proofs.YtapiabmmfmfaeaaGreatDoor
open Go Go.RowKit
theorem wpList_alloc_row {P:Program} {w:World} {ops:Array Oper} {rest:List Oper} {o:Oper} {a:Act} {Q:Exit → Act → World → Prop} (hg:o.guard = none) (ty:TypeId) (ho:o.op = .alloc ty)
  (i:TypeInfo) (z:Value) (zc:Array Value) (hi:P.info? ty = some i) (hz:i.zero = some z) (hzc:z.cells = zc)
  (h:wpList P ops Q rest (a.put o.dst (.pointer (some ⟨w.heap.size,0,none⟩))) (w.alloc (.cells zc ty))):wpList P ops Q (o :: rest) a w:=by
 subst hzc
 refine wpList_plain hg fun K hK=>?_
 unfold Oper.wp execOp
 simp only [ho,Instr.alloc,zeroValue,typeInfo,newVar,newRow,newObj]
 simp [hi,hz,Result.andThen]
 exact hK _ _ h
theorem wpList_store_row {P:Program} {w:World} {ops:Array Oper} {rest:List Oper} {o:Oper} {a:Act} {Q:Exit → Act → World → Prop} (hgd:o.guard = none) (hd:o.dst = none) (ty:TypeId) (x v:Operand) (ho:o.op = .store ty x v)
  (g:Nat) (hx:a.eval x = .pointer (some ⟨g,0,none⟩)) (old cells:Array Value) (hv:a.eval v = .agg cells) (t:TypeId) (hg:w.heap[g]? = some (.cells old t (0,0)))
  (hi:(P.info? ty).map (·.size) = some cells.size) (hs:old.size = cells.size) (h1:cells.all (·.oneCell') = true)
  (h:wpList P ops Q rest a (w.setRow g cells)):wpList P ops Q (o :: rest) a w:=by
 refine wpList_plain hgd fun K hK=>?_
 have hr:=run_storeVar_row (P:=P) w g t ty old cells hg hi hs h1
 unfold Oper.wp execOp
 simp [ho,hx,hv,Instr.storeAt,Instr.sureAddr,hr,Result.andThen,Oper.upon_skip,Act.put,hd]
 exact hK _ _ h
theorem below_setRow {B g:Nat} {a w:World} (h:Below B a w) (hg:B ≤ g) (cs:Array Value):Below B a (w.setRow g cs) :=
 h.trans ⟨rfl,rfl,rfl,by simp,fun k hk=>setRow_other w g k cs (by omega)⟩
end Go.Proofs.YtapiabmmfmfaeaaGreatDoor
/- Chapter 1 in plain Lean: numbers as bytes. -/
namespace Go.Proofs.YtapiabmmfmfaeaaGreatDoor
def seven (n:Nat):List UInt8:=if n < 128 then [UInt8.ofNat n] else UInt8.ofNat (n % 128 + 128) :: seven (n / 128)
termination_by n
theorem seven_lt {n:Nat} (h:n < 128):seven n = [UInt8.ofNat n]:=by rw [seven,if_pos h]
theorem seven_ge {n:Nat} (h:128 ≤ n):seven n = UInt8.ofNat (n % 128 + 128) :: seven (n / 128):=by rw [seven,if_neg (by omega)]
theorem seven_pos (n:Nat):0 < (seven n).length:=by rw [seven];split <;> simp
theorem seven_len_le (k:Nat):∀ n,n < 128 ^ (k + 1) → (seven n).length ≤ k + 1:=by
 induction k with
 | zero=>intro n h;rw [seven_lt (by simpa using h)];simp
 | succ k ih =>
  intro n h
  by_cases hn:n < 128
  ·rw [seven_lt hn];simp
  ·rw [seven_ge (by omega)]
   have:=ih (n / 128) (by rw [Nat.div_lt_iff_lt_mul (by omega)];rw [Nat.pow_succ] at h;exact h)
   simp;omega
theorem seven_len {n:Nat} (h:n < 18446744073709551616):(seven n).length ≤ 10:=seven_len_le 9 n (Nat.lt_of_lt_of_le h (by decide))
def zig (n:Int):Nat:=if n < 0 then ((-n - 1) * 2 + 1).toNat else (n * 2).toNat
theorem zig_lt {n:Int} (h0:-9223372036854775808 ≤ n) (h1:n < 9223372036854775808):zig n < 18446744073709551616:=by unfold zig;split <;> omega
end Go.Proofs.YtapiabmmfmfaeaaGreatDoor
/- Chapter 1 in plain Lean: reading numbers and texts. -/
namespace Go.Proofs.YtapiabmmfmfaeaaGreatDoor
def rdU:Nat → List UInt8 → Nat → Option (Nat × Nat)
 | _,[],_=>none
 | i,c :: r,acc =>
  if 10 ≤ i ∨ (i = 9 ∧ 1 < c.toNat) ∨ (c.toNat = 0 ∧ 0 < i) then none
  else if c.toNat < 128 then some (acc + c.toNat * 128 ^ i,i + 1)
  else rdU (i + 1) r (acc + c.toNat % 128 * 128 ^ i)
def readU (s:List UInt8):Option (Nat × Nat):=rdU 0 s 0
theorem rdU_lt:∀ (s:List UInt8) (i acc n k:Nat),acc < 128 ^ i → rdU i s acc = some (n,k) → n < 18446744073709551616 ∧ i < k ∧ k ≤ i + s.length ∧ k ≤ 10
 | [],_,_,_,_,_,h=>by simp [rdU] at h
 | c :: r,i,acc,n,k,ha,h=>by
  rw [rdU] at h
  split at h
  ·cases h
  ·rename_i hc
   have hc9:¬ 10 ≤ i:=fun h=>hc (.inl h)
   have hpow:(128:Nat) ^ i ≤ 9223372036854775808:=Nat.le_trans (Nat.pow_le_pow_right (by decide) (show i ≤ 9 by omega)) (by decide)
   split at h
   ·simp only [Option.some.injEq,Prod.mk.injEq] at h
    obtain ⟨rfl,rfl⟩:=h
    refine ⟨?_,by omega,by simp,by omega⟩
    by_cases h9:i = 9
    ·have:c.toNat ≤ 1:=by
      rcases Nat.lt_or_ge 1 c.toNat with h1 | h1
      ·exact absurd (.inr (.inl ⟨h9,h1⟩)) hc
      ·exact h1
     have h3:c.toNat * 128 ^ i ≤ 1 * 128 ^ i:=Nat.mul_le_mul_right _ this
     omega
    ·have h2:(128:Nat) ^ i * 128 ≤ 9223372036854775808:=by
      rw [← Nat.pow_succ];exact Nat.le_trans (Nat.pow_le_pow_right (by decide) (show i + 1 ≤ 9 by omega)) (by decide)
     have h3:c.toNat * 128 ^ i ≤ 127 * 128 ^ i:=Nat.mul_le_mul_right _ (by omega)
     omega
   ·have hacc:acc + c.toNat % 128 * 128 ^ i < 128 ^ (i + 1):=by
     have h3:c.toNat % 128 * 128 ^ i ≤ 127 * 128 ^ i:=Nat.mul_le_mul_right _ (by omega)
     rw [Nat.pow_succ];omega
    have:=rdU_lt r (i + 1) _ n k hacc h
    refine ⟨this.1,by omega,?_,this.2.2.2⟩
    have h4:=this.2.2.1
    simp;omega
theorem readU_lt {s:List UInt8} {n k:Nat} (h:readU s = some (n,k)):n < 18446744073709551616 ∧ 0 < k ∧ k ≤ s.length ∧ k ≤ 10:=by
 have:=rdU_lt s 0 0 n k (by decide) h
 omega
def unzig (u:Nat):Int:=if u % 2 = 1 then -((u / 2:Nat):Int) - 1 else ((u / 2:Nat):Int)
theorem unzig_lt {u:Nat} (h:u < 18446744073709551616):-9223372036854775808 ≤ unzig u ∧ unzig u < 9223372036854775808:=by
 unfold unzig;split <;> omega
def readV (s:List UInt8):Option (Int × Nat):=(readU s).map fun x=>(unzig x.1,x.2)
def textOf (s:List UInt8):List UInt8:=seven s.length ++ s
def readT (s:List UInt8):Option (List UInt8 × Nat) :=
 match readU s with
 | none=>none
 | some (n,k)=>if n ≤ 200000 ∧ k + n ≤ s.length then some ((s.drop k).take n,k + n) else none
end Go.Proofs.YtapiabmmfmfaeaaGreatDoor
/- Chapter 1 in plain Lean: a number in so many bytes. -/
namespace Go.Proofs.YtapiabmmfmfaeaaGreatDoor
def little:Nat → Nat → List UInt8
 | 0,_=>[]
 | k + 1,n=>UInt8.ofNat (n % 256) :: little k (n / 256)
theorem little_len (k:Nat):∀ n,(little k n).length = k:=by
 induction k with
 | zero=>intro n;rfl
 | succ k ih=>intro n;simp [little,ih]
theorem little_snoc (k:Nat):∀ n,little (k + 1) n = little k n ++ [UInt8.ofNat (n / 256 ^ k % 256)]:=by
 induction k with
 | zero=>intro n;simp [little]
 | succ k ih =>
  intro n
  rw [little,ih (n / 256),little,List.cons_append,Nat.div_div_eq_div_mul,Nat.pow_succ,Nat.mul_comm 256]
def unlittle:List UInt8 → Nat
 | []=>0
 | b :: l=>b.toNat + 256 * unlittle l
theorem unlittle_lt:∀ l:List UInt8,unlittle l < 256 ^ l.length
 | []=>by simp [unlittle]
 | b :: l=>by
  have:=unlittle_lt l
  have hb:=b.toNat_lt
  rw [unlittle,List.length_cons,Nat.pow_succ]
  omega
theorem unlittle_snoc (l:List UInt8) (b:UInt8):unlittle (l ++ [b]) = unlittle l + b.toNat * 256 ^ l.length:=by
 induction l with
 | nil=>simp [unlittle]
 | cons a l ih =>
  rw [List.cons_append,unlittle,ih,unlittle,List.length_cons,Nat.pow_succ,Nat.mul_add,← Nat.mul_assoc,Nat.mul_comm 256 b.toNat,Nat.mul_assoc,Nat.mul_comm 256 (256 ^ l.length),Nat.add_assoc]
theorem unlittle_little (k:Nat):∀ n,n < 256 ^ k → unlittle (little k n) = n:=by
 induction k with
 | zero=>intro n h;simp at h;subst h;rfl
 | succ k ih =>
  intro n h
  rw [little,unlittle,ih (n / 256) (by rw [Nat.pow_succ] at h;omega),UInt8.toNat_ofNat',Nat.mod_eq_of_lt (show n % 256 < 2 ^ 8 by omega)]
  omega
theorem little_unlittle:∀ l:List UInt8,little l.length (unlittle l) = l
 | []=>rfl
 | b :: l=>by
  have hb:=b.toNat_lt
  rw [List.length_cons,little,unlittle,show (b.toNat + 256 * unlittle l) / 256 = unlittle l by omega,little_unlittle l,show (b.toNat + 256 * unlittle l) % 256 = b.toNat by omega]
  simp
theorem pow256 (k:Nat):(2:Nat) ^ (8 * k) = 256 ^ k:=by rw [Nat.pow_mul]
end Go.Proofs.YtapiabmmfmfaeaaGreatDoor
/- Chapter 2 in plain Lean: bits one behind the other, as a number. -/
namespace Go.Proofs.YtapiabmmfmfaeaaGreatDoor
def bytesOf (m V:Nat):List UInt8:=little ((m + 7) / 8) V
theorem bytesOf_len (m V:Nat):(bytesOf m V).length = (m + 7) / 8:=little_len _ _
theorem little_mod (q:Nat):∀ V x,little q (V + 256 ^ q * x) = little q V:=by
 induction q with
 | zero=>intro V x;rfl
 | succ q ih =>
  intro V x
  have e:V + 256 ^ (q + 1) * x = V + 256 * (256 ^ q * x):=by rw [Nat.pow_succ,Nat.mul_comm (256 ^ q) 256,Nat.mul_assoc]
  rw [little,little,e,Nat.add_mul_mod_self_left,Nat.add_mul_div_left _ _ (by decide:0 < 256),ih]
theorem little_grow (q V:Nat) (h:V < 2 ^ (8 * q)):little q V ++ [0] = little (q + 1) V:=by
 rw [little_snoc,Nat.div_eq_of_lt (by rwa [← pow256])];rfl
theorem little_put (q V e b:Nat) (he:e < 8) (hb:b ≤ 1) (hV:V < 2 ^ (8 * q + e)) :
  (little (q + 1) V).set q (UInt8.ofNat (V / 256 ^ q + b * 2 ^ e)) = little (q + 1) (V + b * 2 ^ (8 * q + e)):=by
 have hp:(2:Nat) ^ e ≤ 128:=Nat.pow_le_pow_right (by decide:2 > 0) (show e ≤ 7 by omega)
 have h1:V / 256 ^ q < 2 ^ e:=by
  rw [Nat.div_lt_iff_lt_mul (Nat.pow_pos (by decide)),← pow256,← Nat.pow_add,Nat.add_comm];exact hV
 have h2:V + b * 2 ^ (8 * q + e) = V + 256 ^ q * (b * 2 ^ e):=by rw [Nat.pow_add,pow256,← Nat.mul_assoc,← Nat.mul_assoc,Nat.mul_comm b]
 have hb2:b * 2 ^ e ≤ 128:=Nat.le_trans (Nat.mul_le_mul_right _ hb) (by omega)
 rw [h2,little_snoc q (V + 256 ^ q * (b * 2 ^ e)),little_mod,Nat.add_mul_div_left _ _ (Nat.pow_pos (by decide):0 < 256 ^ q),Nat.mod_eq_of_lt (by omega),little_snoc,List.set_append]
 simp [little_len]
theorem little_last (q V e:Nat) (he:e < 8) (hV:V < 2 ^ (8 * q + e)):(little (q + 1) V)[q]? = some (UInt8.ofNat (V / 256 ^ q)) ∧ V / 256 ^ q < 2 ^ e:=by
 have hp:(2:Nat) ^ e ≤ 128:=Nat.pow_le_pow_right (by decide:2 > 0) (show e ≤ 7 by omega)
 have h1:V / 256 ^ q < 2 ^ e:=by
  rw [Nat.div_lt_iff_lt_mul (Nat.pow_pos (by decide)),← pow256,← Nat.pow_add,Nat.add_comm];exact hV
 refine ⟨?_,h1⟩
 rw [little_snoc,Nat.mod_eq_of_lt (by omega)]
 simp [little_len]
def packN (w:Nat):List Nat → Nat
 | []=>0
 | n :: l=>n + 2 ^ w * packN w l
theorem packN_snoc (w n:Nat):∀ l,packN w (l ++ [n]) = packN w l + n * 2 ^ (l.length * w)
 | []=>by simp [packN]
 | a :: l=>by
  rw [List.cons_append,packN,packN,packN_snoc w n l,List.length_cons,Nat.add_one_mul,Nat.pow_add,Nat.mul_add,← Nat.add_assoc]
  congr 1
  rw [Nat.mul_comm (2 ^ (l.length * w)) (2 ^ w),← Nat.mul_assoc,← Nat.mul_assoc,Nat.mul_comm n]
theorem packN_lt (w:Nat):∀ l:List Nat,(∀ n ∈ l,n < 2 ^ w) → packN w l < 2 ^ (l.length * w)
 | [],_=>by simp [packN]
 | a :: l,h=>by
  have h1:=packN_lt w l fun n hn=>h n (List.mem_cons_of_mem _ hn)
  have h2:=h a (List.mem_cons_self ..)
  rw [packN,List.length_cons,Nat.add_one_mul,Nat.pow_add]
  have h3:2 ^ w * (packN w l + 1) ≤ 2 ^ w * 2 ^ (l.length * w):=Nat.mul_le_mul_left _ h1
  rw [Nat.mul_comm (2 ^ (l.length * w))]
  rw [Nat.mul_add] at h3
  omega
def packed (w:Nat) (l:List Nat):List UInt8:=bytesOf (l.length * w) (packN w l)
theorem bits_succ (n i:Nat):n % 2 ^ (i + 1) = n % 2 ^ i + (n / 2 ^ i % 2) * 2 ^ i:=by
 rw [Nat.pow_succ,Nat.mod_mul,Nat.mul_comm (2 ^ i)]
end Go.Proofs.YtapiabmmfmfaeaaGreatDoor
/- Chapter 2 in plain Lean: the document's list of bits, and the number that they are. -/
namespace Go.Proofs.YtapiabmmfmfaeaaGreatDoor
def bitsL:Nat → Nat → List UInt8
 | 0,_=>[]
 | k + 1,n=>UInt8.ofNat (n % 2) :: bitsL k (n / 2)
theorem bitsL_len (k:Nat):∀ n,(bitsL k n).length = k:=by
 induction k with
 | zero=>intro n;rfl
 | succ k ih=>intro n;simp [bitsL,ih]
theorem bitsL_snoc (k:Nat):∀ n,bitsL (k + 1) n = bitsL k n ++ [UInt8.ofNat (n / 2 ^ k % 2)]:=by
 induction k with
 | zero=>intro n;simp [bitsL]
 | succ k ih=>intro n;rw [bitsL,ih (n / 2),bitsL,List.cons_append,Nat.div_div_eq_div_mul,Nat.pow_succ,Nat.mul_comm 2]
def allBits (w:Nat):List Nat → List UInt8
 | []=>[]
 | n :: l=>bitsL w n ++ allBits w l
theorem allBits_snoc (w n:Nat):∀ l,allBits w (l ++ [n]) = allBits w l ++ bitsL w n
 | []=>by simp [allBits]
 | a :: l=>by rw [List.cons_append,allBits,allBits,allBits_snoc w n l,List.append_assoc]
theorem allBits_len (w:Nat):∀ l:List Nat,(allBits w l).length = l.length * w
 | []=>by simp [allBits]
 | a :: l=>by rw [allBits,List.length_append,bitsL_len,allBits_len w l,List.length_cons,Nat.add_one_mul,Nat.add_comm]
def valB:List UInt8 → Nat
 | []=>0
 | b :: l=>b.toNat + 2 * valB l
def Bit (l:List UInt8):Prop:=∀ b ∈ l,b.toNat < 2
theorem bitsL_bit (k:Nat):∀ n,Bit (bitsL k n):=by
 induction k with
 | zero=>intro n b hb;simp [bitsL] at hb
 | succ k ih =>
  intro n b hb
  rw [bitsL] at hb
  rcases List.mem_cons.1 hb with rfl | hb
  ·rw [UInt8.toNat_ofNat',Nat.mod_eq_of_lt (show n % 2 < 2 ^ 8 by omega)];omega
  ·exact ih _ b hb
theorem allBits_bit (w:Nat):∀ l,Bit (allBits w l)
 | []=>by intro b hb;simp [allBits] at hb
 | a :: l=>by
  intro b hb
  rw [allBits] at hb
  rcases List.mem_append.1 hb with hb | hb
  ·exact bitsL_bit _ _ b hb
  ·exact allBits_bit w l b hb
theorem valB_bitsL (k:Nat):∀ n,valB (bitsL k n) = n % 2 ^ k:=by
 induction k with
 | zero=>intro n;simp [bitsL,valB,Nat.mod_one]
 | succ k ih =>
  intro n
  rw [bitsL,valB,ih,UInt8.toNat_ofNat',Nat.mod_eq_of_lt (show n % 2 < 2 ^ 8 by omega),Nat.pow_succ,Nat.mul_comm (2 ^ k) 2,Nat.mod_mul]
theorem valB_append:∀ a b,valB (a ++ b) = valB a + 2 ^ a.length * valB b
 | [],b=>by simp [valB]
 | x :: a,b=>by
  rw [List.cons_append,valB,valB_append a b,valB,List.length_cons,Nat.pow_succ,Nat.mul_add,Nat.add_assoc,← Nat.mul_assoc,Nat.mul_comm 2 (2 ^ a.length)]
theorem valB_allBits (w:Nat):∀ l:List Nat,(∀ n ∈ l,n < 2 ^ w) → valB (allBits w l) = packN w l
 | [],_=>rfl
 | a :: l,h=>by
  rw [allBits,valB_append,valB_bitsL,bitsL_len,packN,valB_allBits w l fun n hn=>h n (List.mem_cons_of_mem _ hn),Nat.mod_eq_of_lt (h a (List.mem_cons_self ..))]
theorem valB_lt:∀ l,Bit l → valB l < 2 ^ l.length
 | [],_=>by simp [valB]
 | a :: l,h=>by
  have h1:=valB_lt l fun b hb=>h b (List.mem_cons_of_mem _ hb)
  have h2:=h a (List.mem_cons_self ..)
  rw [valB,List.length_cons,Nat.pow_succ]
  omega
theorem valB_get:∀ (l:List UInt8) (j:Nat) (b:UInt8),Bit l → l[j]? = some b → valB l / 2 ^ j % 2 = b.toNat
 | [],j,b,_,h=>by simp at h
 | a :: l,0,b,hl,h=>by
  simp at h;subst h
  have h2:=hl a (List.mem_cons_self ..)
  rw [valB];simp;omega
 | a :: l,j + 1,b,hl,h=>by
  have h2:=hl a (List.mem_cons_self ..)
  have:=valB_get l j b (fun b hb=>hl b (List.mem_cons_of_mem _ hb)) (by simpa using h)
  rw [valB,Nat.pow_succ,Nat.mul_comm (2 ^ j) 2,← Nat.div_div_eq_div_mul,show (a.toNat + 2 * valB l) / 2 = valB l by omega]
  exact this
theorem byte_done (V j k n:Nat) (hV:V < 2 ^ n) (hk:k ≤ 8) (h:k = 8 ∨ n ≤ 8 * j + k):V / 2 ^ (8 * j) % 2 ^ k = V / 256 ^ j % 256:=by
 rw [pow256]
 rcases h with rfl | h
 ·rfl
 ·have hp:V / 256 ^ j < 2 ^ k:=by
   rw [Nat.div_lt_iff_lt_mul (Nat.pow_pos (by decide)),← pow256,← Nat.pow_add]
   exact Nat.lt_of_lt_of_le hV (Nat.pow_le_pow_right (by decide) (by omega))
  have hq:2 ^ k ≤ 256:=Nat.pow_le_pow_right (n:=2) (by decide) hk
  rw [Nat.mod_eq_of_lt hp,Nat.mod_eq_of_lt (by omega)]
theorem bit_more (V i k:Nat):V / 2 ^ i % 2 ^ (k + 1) = V / 2 ^ i % 2 ^ k + (V / 2 ^ (i + k) % 2) * 2 ^ k:=by
 rw [bits_succ,Nat.div_div_eq_div_mul,← Nat.pow_add]
theorem packed_end (w:Nat) (l:List Nat) (hl:∀ n ∈ l,n < 2 ^ w) (j:Nat) (h1:l.length * w ≤ 8 * j) (h2:8 * j < l.length * w + 8):little j (valB (allBits w l)) = packed w l:=by
 rw [valB_allBits w l hl,packed,bytesOf,show (l.length * w + 7) / 8 = j by omega]
end Go.Proofs.YtapiabmmfmfaeaaGreatDoor
/- Chapter 2 in plain Lean: bits read back. -/
namespace Go.Proofs.YtapiabmmfmfaeaaGreatDoor
theorem unlittle_at:∀ (l:List UInt8) (q:Nat) (b:UInt8),l[q]? = some b → unlittle l / 256 ^ q % 256 = b.toNat
 | [],q,b,h=>by simp at h
 | a :: l,0,b,h=>by
  simp at h;subst h
  have:=a.toNat_lt
  rw [unlittle];simp
 | a :: l,q + 1,b,h=>by
  have ha:=a.toNat_lt
  have:=unlittle_at l q b (by simpa using h)
  rw [unlittle,Nat.pow_succ,Nat.mul_comm (256 ^ q) 256,← Nat.div_div_eq_div_mul,show (a.toNat + 256 * unlittle l) / 256 = unlittle l by omega]
  exact this
theorem bit_of_byte (X e:Nat) (he:e < 8):X % 256 / 2 ^ e % 2 = X / 2 ^ e % 2:=by
 have:e = 0 ∨ e = 1 ∨ e = 2 ∨ e = 3 ∨ e = 4 ∨ e = 5 ∨ e = 6 ∨ e = 7:=by omega
 rcases this with rfl | rfl | rfl | rfl | rfl | rfl | rfl | rfl <;> omega
theorem unlittle_bit (l:List UInt8) (k:Nat) (b:UInt8) (h:l[k / 8]? = some b):b.toNat / 2 ^ (k % 8) % 2 = unlittle l / 2 ^ k % 2:=by
 rw [← unlittle_at l (k / 8) b h,bit_of_byte _ _ (Nat.mod_lt _ (by decide)),Nat.div_div_eq_div_mul,← pow256,← Nat.pow_add,Nat.div_add_mod]
def getAll (U w:Nat):Nat → List Nat
 | 0=>[]
 | n + 1=>getAll U w n ++ [U / 2 ^ (n * w) % 2 ^ w]
theorem getAll_len (U w:Nat):∀ n,(getAll U w n).length = n
 | 0=>rfl
 | n + 1=>by rw [getAll,List.length_append,getAll_len U w n];rfl
theorem getAll_lt (U w:Nat):∀ n,∀ x ∈ getAll U w n,x < 2 ^ w
 | 0=>by intro x hx;simp [getAll] at hx
 | n + 1=>by
  intro x hx
  rw [getAll] at hx
  rcases List.mem_append.1 hx with hx | hx
  ·exact getAll_lt U w n x hx
  ·rw [List.mem_singleton] at hx
   subst hx
   exact Nat.mod_lt _ (Nat.pow_pos (by decide))
theorem unlittle_append:∀ (a b:List UInt8),unlittle (a ++ b) = unlittle a + 256 ^ a.length * unlittle b
 | [],b=>by simp [unlittle]
 | x :: a,b=>by
  rw [List.cons_append,unlittle,unlittle_append a b,unlittle,List.length_cons,Nat.pow_succ,Nat.mul_add,Nat.add_assoc,← Nat.mul_assoc,Nat.mul_comm 256 (256 ^ a.length)]
end Go.Proofs.YtapiabmmfmfaeaaGreatDoor
/- Chapter 3 in plain Lean: values and their order. -/
namespace Go.Proofs.YtapiabmmfmfaeaaGreatDoor
set_option linter.unusedVariables false
open Go
open Go.Op (bytesLess)
structure Val where
 k:Int
 n:Int
 s:ByteArray
def Val.val (x:Val):Value:=.agg #[.int .i64 x.k,.int .i64 x.n,.string x.s]
structure Val.Ok (x:Val):Prop where
 k0:-9223372036854775808 ≤ x.k
 k1:x.k < 9223372036854775808
 n0:-9223372036854775808 ≤ x.n
 n1:x.n < 9223372036854775808
 s1:x.s.size ≤ maxLen
def keyOf (n:Int):Int:=if n < 0 then -9223372036854775809 - n else n
def Val.less (a b:Val):Bool :=
 if a.k ≠ b.k then decide (a.k < b.k) else if a.k = 4 then bytesLess a.s.toList b.s.toList else if a.k = 5 then decide (keyOf a.n < keyOf b.n) else decide (a.n < b.n)
theorem keyOf_lt (a b:Int) (a0:-9223372036854775808 ≤ a) (a1:a < 9223372036854775808) (b0:-9223372036854775808 ≤ b) (b1:b < 9223372036854775808) :
  decide (keyOf a < keyOf b) = (if 0 ≤ a ∧ 0 ≤ b then decide (a < b) else if a < 0 ∧ b < 0 then decide (b < a) else decide (a < 0)):=by
 unfold keyOf
 split <;> split <;> split <;> (try split) <;> first | omega | rfl | (rw [decide_eq_decide];omega)
structure Val.Is (x:Val) (kind:Int):Prop where
 k:x.k = kind
 lo:1 ≤ kind
 hi:kind ≤ 5
 text:kind = 4 → x.n = 0 ∧ x.s.size ≤ 100
 num:kind ≠ 4 → x.s.size = 0
 bool:kind = 1 → 0 ≤ x.n ∧ x.n ≤ 1
 int:kind = 2 → -2147483648 ≤ x.n ∧ x.n ≤ 2147483647
theorem empty_list {s:ByteArray} (h:s.size = 0):s = ⟨#[]⟩:=by
 cases s with
 | mk a=>congr 1;exact Array.eq_empty_of_size_eq_zero h
theorem toList_inj {s t:ByteArray} (h:s.toList = t.toList):s = t:=by
 rw [ByteArray.toList_eq,ByteArray.toList_eq] at h
 cases s;cases t;congr 1;exact Array.toList_inj.1 h
end Go.Proofs.YtapiabmmfmfaeaaGreatDoor
/- Chapter 2 in plain Lean: runs of numbers. -/
namespace Go.Proofs.YtapiabmmfmfaeaaGreatDoor
set_option linter.unusedVariables false
def headRun:List Nat → Nat
 | []=>0
 | a :: l=>(l.takeWhile (· == a)).length + 1
theorem takeWhile_at {p:Nat → Bool}:∀ (l:List Nat) (j:Nat),j < (l.takeWhile p).length → ∃ x,l[j]? = some x ∧ p x = true
 | [],j,h=>by simp at h
 | a :: l,j,h=>by
  rw [List.takeWhile_cons] at h
  split at h
  ·cases j with
   | zero=>exact ⟨a,rfl,by assumption⟩
   | succ j=>exact takeWhile_at l j (by simpa using h)
  ·simp at h
theorem takeWhile_stop {p:Nat → Bool}:∀ (l:List Nat) (x:Nat),l[(l.takeWhile p).length]? = some x → p x = false
 | [],x,h=>by simp at h
 | a :: l,x,h=>by
  rw [List.takeWhile_cons] at h
  split at h
  ·exact takeWhile_stop l x (by simpa using h)
  ·simp at h;subst h;exact Bool.eq_false_iff.2 (by assumption)
theorem takeWhile_le {p:Nat → Bool} (l:List Nat):(l.takeWhile p).length ≤ l.length:=(List.takeWhile_sublist p).length_le
theorem headRun_le (l:List Nat):headRun l ≤ l.length:=by
 cases l with
 | nil=>simp [headRun]
 | cons a l=>have:=takeWhile_le (p:=(· == a)) l;simp [headRun];omega
theorem headRun_pos (a:Nat) (l:List Nat):0 < headRun (a :: l):=by simp [headRun]
theorem headRun_at (a:Nat) (l:List Nat) (j:Nat) (h:j < headRun (a :: l)):(a :: l)[j]? = some a:=by
 cases j with
 | zero=>rfl
 | succ j =>
  obtain ⟨x,h1,h2⟩:=takeWhile_at l j (by simp [headRun] at h;omega)
  rw [List.getElem?_cons_succ,h1,beq_iff_eq.1 h2]
theorem headRun_stop (a:Nat) (l:List Nat) (x:Nat) (h:(a :: l)[headRun (a :: l)]? = some x):x ≠ a:=by
 have:=takeWhile_stop l x (p:=(· == a)) (by simpa [headRun] using h)
 simpa using this
def pad8 (l:List Nat):List Nat:=l.take 8 ++ List.replicate (8 - l.length) 0
theorem pad8_len (l:List Nat):(pad8 l).length = 8:=by simp [pad8];omega
def sizeB (wd:Nat):Nat:=(wd + 7) / 8
def flush (wd:Nat) (o:List Nat):List UInt8:=if o = [] then [] else seven (2 * (o.length / 8) + 1) ++ packed wd o
def runsB (wd:Nat) (l o:List Nat):List UInt8 :=
 match l with
 | []=>flush wd o
 | a :: l=>if 8 ≤ headRun (a :: l) then flush wd o ++ (seven (2 * headRun (a :: l)) ++ little (sizeB wd) a ++ runsB wd ((a :: l).drop (headRun (a :: l))) [])
  else runsB wd ((a :: l).drop 8) (o ++ pad8 (a :: l))
termination_by l.length
decreasing_by
 ·simp only [List.length_drop,List.length_cons];have:=headRun_pos a l;omega
 ·simp only [List.length_drop,List.length_cons];omega
theorem runsB_nil (wd:Nat) (o:List Nat):runsB wd [] o = flush wd o:=by rw [runsB]
theorem runsB_run (wd a:Nat) (l o:List Nat) (h:8 ≤ headRun (a :: l)):runsB wd (a :: l) o = flush wd o ++ (seven (2 * headRun (a :: l)) ++ little (sizeB wd) a ++ runsB wd ((a :: l).drop (headRun (a :: l))) []):=by
 rw [runsB,if_pos h]
theorem runsB_open (wd a:Nat) (l o:List Nat) (h:headRun (a :: l) < 8):runsB wd (a :: l) o = runsB wd ((a :: l).drop 8) (o ++ pad8 (a :: l)):=by
 rw [runsB,if_neg (by omega)]
theorem flush_nil (wd:Nat):flush wd [] = []:=rfl
theorem flush_cons (wd:Nat) {o:List Nat} (h:o ≠ []):flush wd o = seven (2 * (o.length / 8) + 1) ++ packed wd o:=if_neg h
def readR (wd left:Nat) (s:List UInt8):Option (List Nat × Nat) :=
 if h0:left = 0 then some ([],0) else
 match readU s with
 | none=>none
 | some (h,k) =>
  if h1:h < 2 ∨ left < h / 2 then none
  else if h % 2 = 0 then
   if (s.drop k).length < sizeB wd ∨ 2 ^ wd ≤ unlittle ((s.drop k).take (sizeB wd)) then none
   else (readR wd (left - h / 2) (s.drop (k + sizeB wd))).map fun x=>(List.replicate (h / 2) (unlittle ((s.drop k).take (sizeB wd))) ++ x.1,k + sizeB wd + x.2)
  else if (s.drop k).length < h / 2 * wd ∨ left + 8 ≤ 8 * (h / 2) ∨ ¬ ∀ x ∈ (getAll (unlittle (s.drop k)) wd (8 * (h / 2))).drop left,x = 0 then none
   else (readR wd (left - 8 * (h / 2)) (s.drop (k + h / 2 * wd))).map fun x=>((getAll (unlittle (s.drop k)) wd (8 * (h / 2))).take left ++ x.1,k + h / 2 * wd + x.2)
termination_by left
decreasing_by
 ·omega
 ·omega
theorem readR_zero (wd:Nat) (s:List UInt8):readR wd 0 s = some ([],0):=by rw [readR,dif_pos rfl]
theorem readR_none (wd left:Nat) (s:List UInt8) (h0:0 < left) (h:readU s = none):readR wd left s = none:=by rw [readR,dif_neg (by omega),h]
theorem readR_bad (wd left h k:Nat) (s:List UInt8) (h0:0 < left) (hU:readU s = some (h,k)) (h1:h < 2 ∨ left < h / 2):readR wd left s = none:=by
 rw [readR,dif_neg (by omega),hU];exact dif_pos h1
theorem readR_even_bad (wd left h k:Nat) (s:List UInt8) (h0:0 < left) (hU:readU s = some (h,k)) (h1:¬ (h < 2 ∨ left < h / 2)) (h2:h % 2 = 0)
  (h3:(s.drop k).length < sizeB wd ∨ 2 ^ wd ≤ unlittle ((s.drop k).take (sizeB wd))):readR wd left s = none:=by
 rw [readR,dif_neg (by omega),hU];simp only;rw [dif_neg h1,if_pos h2,if_pos h3]
theorem readR_even (wd left h k:Nat) (s:List UInt8) (h0:0 < left) (hU:readU s = some (h,k)) (h1:¬ (h < 2 ∨ left < h / 2)) (h2:h % 2 = 0)
  (h3:¬ ((s.drop k).length < sizeB wd ∨ 2 ^ wd ≤ unlittle ((s.drop k).take (sizeB wd)))) :
  readR wd left s = (readR wd (left - h / 2) (s.drop (k + sizeB wd))).map fun x=>(List.replicate (h / 2) (unlittle ((s.drop k).take (sizeB wd))) ++ x.1,k + sizeB wd + x.2):=by
 rw [readR,dif_neg (by omega),hU];simp only;rw [dif_neg h1,if_pos h2,if_neg h3]
theorem readR_odd_bad (wd left h k:Nat) (s:List UInt8) (h0:0 < left) (hU:readU s = some (h,k)) (h1:¬ (h < 2 ∨ left < h / 2)) (h2:h % 2 = 1)
  (h3:(s.drop k).length < h / 2 * wd ∨ left + 8 ≤ 8 * (h / 2) ∨ ¬ ∀ x ∈ (getAll (unlittle (s.drop k)) wd (8 * (h / 2))).drop left,x = 0):readR wd left s = none:=by
 rw [readR,dif_neg (by omega),hU];simp only;rw [dif_neg h1,if_neg (by omega),if_pos h3]
theorem readR_odd (wd left h k:Nat) (s:List UInt8) (h0:0 < left) (hU:readU s = some (h,k)) (h1:¬ (h < 2 ∨ left < h / 2)) (h2:h % 2 = 1)
  (h3:¬ ((s.drop k).length < h / 2 * wd ∨ left + 8 ≤ 8 * (h / 2) ∨ ¬ ∀ x ∈ (getAll (unlittle (s.drop k)) wd (8 * (h / 2))).drop left,x = 0)) :
  readR wd left s = (readR wd (left - 8 * (h / 2)) (s.drop (k + h / 2 * wd))).map fun x=>((getAll (unlittle (s.drop k)) wd (8 * (h / 2))).take left ++ x.1,k + h / 2 * wd + x.2):=by
 rw [readR,dif_neg (by omega),hU];simp only;rw [dif_neg h1,if_neg (by omega),if_neg h3]
theorem flush_len (wd:Nat) (o:List Nat) (hw:wd ≤ 32) (ho:o.length < 1000000000):(flush wd o).length ≤ 4 * o.length + 12:=by
 by_cases h:o = []
 ·rw [h];simp [flush_nil]
 ·rw [flush_cons wd h,List.length_append,packed,bytesOf_len]
  have h1:o.length * wd ≤ o.length * 32:=Nat.mul_le_mul_left _ hw
  have h2:=seven_len (show 2 * (o.length / 8) + 1 < 18446744073709551616 by omega)
  omega
theorem runsB_len (wd:Nat) (hw:wd ≤ 32):∀ (n:Nat) (l o:List Nat),l.length = n → 40 * l.length + 4 * o.length < 1000000000 → (runsB wd l o).length ≤ 40 * l.length + 4 * o.length + 12:=by
 intro n
 induction n using Nat.strongRecOn with
 | _ n ih =>
  intro l o hn hb
  cases l with
  | nil =>
   rw [runsB_nil]
   have:=flush_len wd o hw (by omega)
   simp;omega
  | cons a l =>
   have hle:=headRun_le (a :: l)
   have hpos:=headRun_pos a l
   rw [List.length_cons] at hn hb ⊢
   by_cases hr:8 ≤ headRun (a :: l)
   ·rw [runsB_run wd a l o hr]
    have h1:=ih _ (by rw [List.length_drop,List.length_cons];omega) ((a :: l).drop (headRun (a :: l))) [] rfl (by rw [List.length_drop,List.length_cons,List.length_nil];omega)
    have h2:=flush_len wd o hw (by omega)
    rw [List.length_cons] at hle
    have h3:=seven_len (show 2 * headRun (a :: l) < 18446744073709551616 by omega)
    have h4:sizeB wd ≤ 4:=by unfold sizeB;omega
    rw [List.length_drop,List.length_cons,List.length_nil] at h1
    simp only [List.length_append,little_len]
    omega
   ·rw [runsB_open wd a l o (by omega)]
    have h1:=ih _ (by rw [List.length_drop,List.length_cons];omega) ((a :: l).drop 8) (o ++ pad8 (a :: l)) rfl (by rw [List.length_drop,List.length_cons,List.length_append,pad8_len];omega)
    rw [List.length_drop,List.length_cons,List.length_append,pad8_len] at h1
    omega
end Go.Proofs.YtapiabmmfmfaeaaGreatDoor
/- Chapter 2 in plain Lean: what is written as runs is read. -/
namespace Go.Proofs.YtapiabmmfmfaeaaGreatDoor
set_option linter.unusedVariables false
end Go.Proofs.YtapiabmmfmfaeaaGreatDoor
/- Chapter 1 in plain Lean: what is read as a number, a text, is what is written. -/
namespace Go.Proofs.YtapiabmmfmfaeaaGreatDoor
theorem rdU_inv:∀ (s:List UInt8) (i acc n k:Nat),rdU i s acc = some (n,k) → ∃ m,n = acc + m * 128 ^ i ∧ s.take (k - i) = seven m ∧ (m = 0 → i = 0) ∧ i < k
 | [],_,_,_,_,h=>by simp [rdU] at h
 | c :: r,i,acc,n,k,h=>by
  have hc256:=c.toNat_lt
  rw [rdU] at h
  split at h
  ·cases h
  ·rename_i hc
   split at h
   ·rename_i h128
    simp only [Option.some.injEq,Prod.mk.injEq] at h
    obtain ⟨rfl,rfl⟩:=h
    refine ⟨c.toNat,rfl,?_,fun h0=>?_,by omega⟩
    ·rw [show i + 1 - i = 1 by omega,seven_lt h128]
     simp
    ·rcases Nat.eq_zero_or_pos i with h | h
     ·exact h
     ·exact absurd (.inr (.inr ⟨h0,h⟩)) hc
   ·obtain ⟨m,h1,h2,h3,h4⟩:=rdU_inv r (i + 1) _ n k h
    have hm:m ≠ 0:=fun h=>by have:=h3 h;omega
    refine ⟨c.toNat % 128 + m * 128,?_,?_,fun h=>by omega,by omega⟩
    ·rw [h1,Nat.add_mul,Nat.pow_succ,Nat.mul_assoc,Nat.mul_comm 128 (128 ^ i),Nat.add_assoc]
    ·rw [show k - i = (k - (i + 1)) + 1 by omega,List.take_succ_cons,h2,seven_ge (n:=c.toNat % 128 + m * 128) (by omega)]
     congr 1
     ·rw [show (c.toNat % 128 + m * 128) % 128 + 128 = c.toNat by omega]
      simp
     ·congr 1;omega
theorem readU_inv {s:List UInt8} {n k:Nat} (h:readU s = some (n,k)):s.take k = seven n ∧ k = (seven n).length:=by
 obtain ⟨m,h1,h2,_,_⟩:=rdU_inv s 0 0 n k h
 rw [Nat.pow_zero,Nat.mul_one,Nat.zero_add] at h1
 subst h1
 have hk:=readU_lt h
 refine ⟨h2,?_⟩
 have:=congrArg List.length h2
 rw [List.length_take] at this
 omega
theorem readT_inv {s t:List UInt8} {k:Nat} (h:readT s = some (t,k)):s.take k = textOf t ∧ k = (textOf t).length ∧ t.length ≤ 200000 ∧ k ≤ s.length:=by
 unfold readT at h
 cases hu:readU s with
 | none=>rw [hu] at h;cases h
 | some x =>
  obtain ⟨n,k'⟩:=x
  rw [hu] at h
  simp only at h
  split at h
  ·rename_i hc
   simp only [Option.some.injEq,Prod.mk.injEq] at h
   obtain ⟨rfl,rfl⟩:=h
   obtain ⟨h1,h2⟩:=readU_inv hu
   have hl:((s.drop k').take n).length = n:=by rw [List.length_take,List.length_drop];omega
   unfold textOf
   rw [hl]
   refine ⟨?_,?_,hc.1,hc.2⟩
   ·rw [List.take_add,h1]
   ·rw [List.length_append,hl,← h2]
  ·cases h
theorem readT_split {s t:List UInt8} {k:Nat} (h:readT s = some (t,k)):s = textOf t ++ s.drop k:=by
 obtain ⟨h1,_⟩:=readT_inv h
 rw [← h1,List.take_append_drop]
end Go.Proofs.YtapiabmmfmfaeaaGreatDoor
