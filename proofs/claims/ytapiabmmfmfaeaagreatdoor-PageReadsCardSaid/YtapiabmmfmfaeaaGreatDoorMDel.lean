/- Merged texts: Del1, DelW1. -/
import Derived.Test.YtapiabmmfmfaeaaGreatDoorMEnc
import Derived.Test.YtapiabmmfmfaeaaGreatDoorMBits
import Derived.Deep.RegionHeld3
import Derived.Deep.RegionWith
import Derived.Deep.AppendLies
/- Chapter 3 in plain Lean: numbers by their differences. -/
namespace Go.Proofs.YtapiabmmfmfaeaaGreatDoor
set_option linter.unusedVariables false
open Go Go.RowKit
theorem bitLenAux_up:∀ f x,x < 2 ^ f → x < 2 ^ Lib.bitLenAux f x
 | 0,x,h=>by simpa [Lib.bitLenAux] using h
 | f + 1,x,h=>by
  unfold Lib.bitLenAux
  by_cases h0:x = 0
  ·rw [if_pos h0];omega
  ·rw [if_neg h0]
   have:=bitLenAux_up f (x / 2) (by rw [Nat.pow_succ] at h;omega)
   rw [Nat.pow_add,Nat.pow_one]
   omega
theorem bitLen_up {x:Nat} (h:x < 18446744073709551616):x < 2 ^ Lib.bitLen x:=bitLenAux_up 64 x (by simpa using h)
theorem bitLen_mono {a b:Nat} (h:a ≤ b) (hb:b < 18446744073709551616):Lib.bitLen a ≤ Lib.bitLen b :=
 Lib.bitLen_le a (Lib.bitLen b) (bitLen_le b) (Nat.lt_of_le_of_lt h (bitLen_up hb))
theorem bitLen_max {a b:Nat} (ha:a < 18446744073709551616) (hb:b < 18446744073709551616):Lib.bitLen (max a b) = max (Lib.bitLen a) (Lib.bitLen b):=by
 rcases Nat.le_total a b with h | h
 ·have:=bitLen_mono h hb
  rw [Nat.max_eq_right h,Nat.max_eq_right this]
 ·have:=bitLen_mono h ha
  rw [Nat.max_eq_left h,Nat.max_eq_left this]
def d64 (x y:Int):Int:=IntKind.i64.wrap (x - y)
theorem d64_in (x y:Int):-9223372036854775808 ≤ d64 x y ∧ d64 x y < 9223372036854775808:=by unfold d64;rw [IntKind.wrap_i64];omega
def diffs:Int → List Int → List Int
 | _,[]=>[]
 | p,x :: l=>d64 x p :: diffs x l
theorem diffs_len:∀ (l:List Int) (p:Int),(diffs p l).length = l.length
 | [],_=>rfl
 | x :: l,p=>by rw [diffs,List.length_cons,diffs_len l x,List.length_cons]
theorem diffs_at:∀ (l:List Int) (p:Int) (j:Nat),j < l.length → (diffs p l)[j]? = some (d64 (l.getD j 0) (if j = 0 then p else l.getD (j - 1) 0))
 | [],_,j,h=>by simp at h
 | x :: l,p,0,_=>by simp [diffs]
 | x :: l,p,j + 1,h=>by
  rw [diffs,List.getElem?_cons_succ,diffs_at l x j (by simpa using h)]
  cases j with
  | zero=>simp
  | succ j=>simp
theorem diffs_in:∀ (l:List Int) (p:Int),∀ x ∈ diffs p l,-9223372036854775808 ≤ x ∧ x < 9223372036854775808
 | [],_,x,h=>by simp [diffs] at h
 | a :: l,p,x,h=>by
  rw [diffs,List.mem_cons] at h
  rcases h with rfl | h
  ·exact d64_in _ _
  ·exact diffs_in l a x h
def minOf (l:List Int):Int:=l.foldl min (l.headD 0)
theorem foldl_min_in:∀ (l:List Int) (a:Int),l.foldl min a = a ∨ l.foldl min a ∈ l
 | [],a=>by simp
 | b :: l,a=>by
  rw [List.foldl_cons]
  rcases foldl_min_in l (min a b) with h | h
  ·rw [h]
   rcases Int.le_total a b with h' | h'
   ·rw [Int.min_eq_left h'];exact .inl rfl
   ·rw [Int.min_eq_right h'];simp
  ·exact .inr (List.mem_cons_of_mem _ h)
theorem minOf_in {l:List Int} (h:l ≠ []):minOf l ∈ l:=by
 cases l with
 | nil=>exact absurd rfl h
 | cons a l =>
  rcases foldl_min_in (a :: l) a with h | h
  ·show List.foldl min a (a :: l) ∈ _;rw [h];simp
  ·exact h
def unsub (m x:Int):Nat:=((x - m) % 18446744073709551616).toNat
theorem unsub_lt (m x:Int):unsub m x < 18446744073709551616:=by unfold unsub;omega
theorem unsub_sub (m x:Int):IntKind.u64.wrap (IntKind.u64.wrap x - IntKind.u64.wrap m) = (unsub m x:Int):=by
 unfold unsub;rw [IntKind.wrap_u64,IntKind.wrap_u64,IntKind.wrap_u64];omega
theorem unsub_conv (m x:Int):IntKind.u64.wrap (IntKind.i64.wrap (x - m)) = (unsub m x:Int):=by
 unfold unsub;rw [IntKind.wrap_u64,IntKind.wrap_i64];omega
theorem d64_sub (x y:Int):IntKind.i64.wrap (IntKind.u64.wrap (IntKind.u64.wrap x - IntKind.u64.wrap y)) = d64 x y:=by
 unfold d64;rw [IntKind.wrap_u64,IntKind.wrap_u64,IntKind.wrap_u64,IntKind.wrap_i64,IntKind.wrap_i64];omega
def unsubs (l:List Int):List Nat:=l.map (unsub (minOf l))
def mostOf (u:List Nat):Nat:=u.foldl max 0
def widOf (u:List Nat):Nat:=Lib.bitLen (mostOf u)
theorem foldl_max_lt:∀ (u:List Nat) (a:Nat),a < 18446744073709551616 → (∀ x ∈ u,x < 18446744073709551616) → u.foldl max a < 18446744073709551616
 | [],a,ha,_=>by simpa using ha
 | b :: u,a,ha,h=>by
  rw [List.foldl_cons]
  exact foldl_max_lt u _ (by have:=h b (by simp);omega) fun x hx=>h x (by simp [hx])
theorem foldl_max_ge:∀ (u:List Nat) (a:Nat),a ≤ u.foldl max a ∧ ∀ x ∈ u,x ≤ u.foldl max a
 | [],a=>by simp
 | b :: u,a=>by
  have h:=foldl_max_ge u (max a b)
  rw [List.foldl_cons]
  refine ⟨by omega,fun x hx=>?_⟩
  rcases List.mem_cons.1 hx with rfl | hx
  ·omega
  ·exact h.2 x hx
theorem foldl_wid:∀ (u:List Nat) (a:Nat),a < 18446744073709551616 → (∀ x ∈ u,x < 18446744073709551616) → u.foldl (fun w x=>max w (Lib.bitLen x)) (Lib.bitLen a) = Lib.bitLen (u.foldl max a)
 | [],a,_,_=>rfl
 | b :: u,a,ha,h=>by
  have hb:=h b (by simp)
  rw [List.foldl_cons,List.foldl_cons,← bitLen_max ha hb]
  exact foldl_wid u _ (by omega) fun x hx=>h x (by simp [hx])
theorem mostOf_lt {u:List Nat} (h:∀ x ∈ u,x < 18446744073709551616):mostOf u < 18446744073709551616:=foldl_max_lt u 0 (by decide) h
theorem widOf_fold {u:List Nat} (h:∀ x ∈ u,x < 18446744073709551616):u.foldl (fun w x=>max w (Lib.bitLen x)) 0 = widOf u:=foldl_wid u 0 (by decide) h
theorem widOf_le (u:List Nat):widOf u ≤ 64:=bitLen_le _
theorem widOf_fits {u:List Nat} (h:∀ x ∈ u,x < 18446744073709551616):∀ x ∈ u,x < 2 ^ widOf u:=fun x hx =>
 Nat.lt_of_le_of_lt ((foldl_max_ge u 0).2 x hx) (bitLen_up (mostOf_lt h))
theorem unsubs_lt (l:List Int):∀ x ∈ unsubs l,x < 18446744073709551616:=by
 intro x hx
 obtain ⟨y,_,rfl⟩:=List.mem_map.1 hx
 exact unsub_lt _ _
theorem fold_min_snoc (l:List Int) (x a:Int):(l ++ [x]).foldl min a = min (l.foldl min a) x:=by simp
theorem fold_max_snoc (l:List Nat) (x a:Nat):(l ++ [x]).foldl max a = max (l.foldl max a) x:=by simp
def chunkB (p:Int) (c:List Int):List UInt8 :=
 seven (zig (minOf (diffs p c))) ++ [UInt8.ofNat (widOf (unsubs (diffs p c)))] ++ packed (widOf (unsubs (diffs p c))) (unsubs (diffs p c))
theorem chunkB_eq (p:Int) (c:List Int):chunkB p c = seven (zig (minOf (diffs p c))) ++ [UInt8.ofNat (widOf (unsubs (diffs p c)))] ++ packed (widOf (unsubs (diffs p c))) (unsubs (diffs p c)):=rfl
def restB (p:Int) (l:List Int):List UInt8 :=
 if l = [] then [] else chunkB p (l.take 32) ++ restB ((l.take 32).getLastD p) (l.drop 32)
termination_by l.length
decreasing_by
 rename_i h
 have:=List.length_pos_iff.2 h
 rw [List.length_drop];omega
def deltaB:List Int → List UInt8
 | []=>[]
 | x :: l=>seven (zig x) ++ restB x l
theorem restB_nil (p:Int):restB p [] = []:=by rw [restB,if_pos rfl]
theorem restB_some (p:Int) {l:List Int} (h:l ≠ []):restB p l = chunkB p (l.take 32) ++ restB ((l.take 32).getLastD p) (l.drop 32):=by rw [restB,if_neg h]
theorem restB_last (p q:Int) (l:List Int) (h:l ≠ [] → p = q):restB p l = restB q l:=by
 by_cases h0:l = []
 ·subst h0;rw [restB_nil,restB_nil]
 ·rw [h h0]
theorem restB_step (L:List Int) (i:Nat) (h1:1 ≤ i) (hi:i < L.length) :
  restB (L.getD (i - 1) 0) (L.drop i) = chunkB (L.getD (i - 1) 0) ((L.drop i).take 32) ++ restB (L.getD (i + 32 - 1) 0) (L.drop (i + 32)):=by
 rw [restB_some _ (by intro h;rw [List.drop_eq_nil_iff] at h;omega),List.drop_drop]
 congr 1
 refine restB_last _ _ _ fun h=>?_
 have hlen:i + 32 < L.length:=by
  rcases Nat.lt_or_ge (i + 32) L.length with h' | h'
  ·exact h'
  ·exact absurd (List.drop_eq_nil_iff.2 h') h
 have:((L.drop i).take 32).length = 32:=by rw [List.length_take,List.length_drop];omega
 have e:L.getD (i + 32 - 1) 0 = L[i + 32 - 1]'(by omega):=by rw [List.getD_eq_getElem?_getD,List.getElem?_eq_getElem (by omega)];rfl
 rw [List.getLastD_eq_getLast?,List.getLast?_eq_getElem?,this,List.getElem?_take,if_pos (by omega),List.getElem?_drop,e]
 rw [show i + (32 - 1) = i + 32 - 1 by omega,List.getElem?_eq_getElem (by omega)]
 rfl
theorem chunkB_len (p:Int) (c:List Int) (h:c.length ≤ 32):(chunkB p c).length ≤ 300:=by
 have h1:=widOf_le (unsubs (diffs p c))
 have h2:(unsubs (diffs p c)).length = c.length:=by unfold unsubs;rw [List.length_map,diffs_len]
 have h3:(seven (zig (minOf (diffs p c)))).length ≤ 10:=seven_len (zig_lt (by
  by_cases h:diffs p c = []
  ·rw [h];decide
  ·exact (diffs_in c p _ (minOf_in h)).1) (by
  by_cases h:diffs p c = []
  ·rw [h];decide
  ·exact (diffs_in c p _ (minOf_in h)).2))
 unfold chunkB
 rw [List.length_append,List.length_append,packed,bytesOf_len,h2]
 have:c.length * widOf (unsubs (diffs p c)) ≤ 32 * 64:=Nat.mul_le_mul h h1
 simp
 omega
theorem restB_len:∀ (n:Nat) (l:List Int) (p:Int),l.length = n → (restB p l).length ≤ 300 * l.length:=by
 intro n
 induction n using Nat.strongRecOn with
 | _ n ih =>
  intro l p hn
  by_cases h:l = []
  ·subst h;rw [restB_nil];simp
  ·have hp:=List.length_pos_iff.2 h
   have h1:=chunkB_len p (l.take 32) (by rw [List.length_take];omega)
   have h2:=ih (l.drop 32).length (by rw [List.length_drop];omega) (l.drop 32) ((l.take 32).getLastD p) rfl
   rw [restB_some p h,List.length_append]
   rw [List.length_drop] at h2
   omega
theorem deltaB_len (l:List Int) (h:∀ x ∈ l,-9223372036854775808 ≤ x ∧ x < 9223372036854775808):(deltaB l).length ≤ 300 * l.length:=by
 cases l with
 | nil=>simp [deltaB]
 | cons x l =>
  have h1:=seven_len (zig_lt (h x (by simp)).1 (h x (by simp)).2)
  have h2:=restB_len _ l x rfl
  rw [deltaB,List.length_append,List.length_cons]
  omega
theorem diffs_place (L:List Int) (i j:Nat) (h1:1 ≤ i) (hj:j < ((L.drop i).take 32).length) :
  (diffs (L.getD (i - 1) 0) ((L.drop i).take 32))[j]? = some (d64 (L.getD (i + j) 0) (L.getD (i + j - 1) 0)):=by
 rw [diffs_at _ _ _ hj]
 rw [List.length_take,List.length_drop] at hj
 congr 2
 ·rw [List.getD_eq_getElem?_getD,List.getElem?_take,if_pos (by omega),List.getElem?_drop,← List.getD_eq_getElem?_getD]
 ·split
  ·subst_vars;rfl
  ·rw [List.getD_eq_getElem?_getD,List.getElem?_take,if_pos (by omega),List.getElem?_drop,← List.getD_eq_getElem?_getD]
   congr 1;omega
end Go.Proofs.YtapiabmmfmfaeaaGreatDoor
/- The walk of enc.Delta at right numbers. -/
namespace Go.Proofs.YtapiabmmfmfaeaaGreatDoor
set_option linter.unusedVariables false
open Go Go.RowKit Go.ChangeShapes
theorem info_i64:(Tryz.prog.info? 2).map (fun i=>(i.zero,i.size,i.bytes)) = some (some (.int .i64 0),1,8):=by kernel_rfl
def numsI (l:List Val):List Int:=l.map (·.n)
theorem numsI_at (l:List Val) (i:Nat) (h:i < l.length):(numsI l).getD i 0 = l[i].n:=by
 unfold numsI
 rw [List.getD_eq_getElem?_getD,List.getElem?_map,List.getElem?_eq_getElem h];rfl
theorem first_below {w w8:World} (h:Below w.drew.heap.size w.drew w8):Below w.heap.size w w8:=(Below.refl w.heap.size w).drew.trans (h.mono (Nat.le_refl _))
theorem first_below_alloc {w w8:World} {o:Obj} (h:Below (w.alloc o).drew.heap.size (w.alloc o).drew w8):Below w.heap.size w w8:=(((Below.refl w.heap.size w).alloc (Nat.le_refl _) _).drew).trans (h.mono (by simp))
theorem first_cell_alloc {w w8:World} {n:Value} {T:TypeId} (h:Below (w.alloc (.cells #[n] T)).drew.heap.size (w.alloc (.cells #[n] T)).drew w8):w8.cell? ⟨w.heap.size,0,none⟩ = some n:=by
 rw [h.cell (p:=⟨w.heap.size,0,none⟩) (by simp)]
 show (w.alloc (.cells #[n] T)).cell? _ = _
 rw [World.cell?_alloc_at _ _ _ _ rfl];rfl
theorem run_byte_at {w:World} {b n:Nat} (h:n < 256) (hc:w.cell? ⟨b,0,none⟩ = some (.int .u8 (n:Int))) :
  (convert 129 9 (.slice (some ⟨b,0,none⟩) 1 1)).run Tryz.prog w = .ok (.string ⟨#[UInt8.ofNat n]⟩) w:=by
 refine run_convert_bytes_back w 129 9 5 _ 1 [UInt8.ofNat n] Tryz.underlying129 Tryz.underlying5 Tryz.underlying9 fun j hj=>?_
 have:j = 0:=by simpa using hj
 subst this
 rw [Addr.add_lit,Nat.zero_add,hc]
 simp [UInt8.toNat_ofNat',Nat.mod_eq_of_lt h]
end Go.Proofs.YtapiabmmfmfaeaaGreatDoor
