/- Merged texts: Wire2, WireW2, WireW3. -/
import Derived.Test.YtapiabmmfmfaeaaGreatDoorMWire
import Derived.Test.YtapiabmmfmfaeaaGreatDoorMPlain
/- Chapter 1 in plain Lean: the remainder of bytes, bit by bit. -/
namespace Go.Proofs.YtapiabmmfmfaeaaGreatDoor
set_option maxHeartbeats 1000000
def crcBit (c:Nat):Nat:=if c % 2 = 1 then (c / 2) ^^^ 3988292384 else c / 2
def crcN:Nat → Nat → Nat
 | 0,c=>c
 | k + 1,c=>crcN k (crcBit c)
def crcStep (c:Nat) (b:UInt8):Nat:=crcN 8 (c ^^^ b.toNat)
def crcRaw (l:List UInt8):Nat:=l.foldl crcStep 4294967295
def crc (l:List UInt8):Nat:=crcRaw l ^^^ 4294967295
theorem crcBit_lt {c:Nat} (h:c < 4294967296):crcBit c < 4294967296:=by
 unfold crcBit
 split
 ·exact Nat.xor_lt_two_pow (n:=32) (by omega) (by decide)
 ·omega
theorem crcN_lt (k:Nat):∀ {c:Nat},c < 4294967296 → crcN k c < 4294967296:=by
 induction k with
 | zero=>intro c h;exact h
 | succ k ih=>intro c h;exact ih (crcBit_lt h)
theorem crcN_succ (k c:Nat):crcN (k + 1) c = crcBit (crcN k c):=by
 induction k generalizing c with
 | zero=>rfl
 | succ k ih=>exact ih (crcBit c)
theorem xor_lt32 {a b:Nat} (ha:a < 4294967296) (hb:b < 4294967296):a ^^^ b < 4294967296:=Nat.xor_lt_two_pow (n:=32) ha hb
theorem crcStep_lt {c:Nat} (b:UInt8) (h:c < 4294967296):crcStep c b < 4294967296 :=
 crcN_lt 8 (xor_lt32 h (Nat.lt_trans b.toNat_lt (by decide)))
theorem crcFold_lt (l:List UInt8):∀ {c:Nat},c < 4294967296 → l.foldl crcStep c < 4294967296:=by
 induction l with
 | nil=>intro c h;exact h
 | cons b l ih=>intro c h;exact ih (crcStep_lt b h)
theorem crcRaw_lt (l:List UInt8):crcRaw l < 4294967296:=crcFold_lt l (by decide)
theorem crcRaw_snoc (l:List UInt8) (b:UInt8):crcRaw (l ++ [b]) = crcStep (crcRaw l) b:=by simp [crcRaw]
theorem crcBit_xor (a b:Nat):crcBit (a ^^^ b) = crcBit a ^^^ crcBit b:=by
 have hm:(a ^^^ b) % 2 = (a + b) % 2:=by
  have h:=Nat.xor_mod_two_eq_one (a:=a) (b:=b)
  rcases Nat.mod_two_eq_zero_or_one a with ha | ha <;> rcases Nat.mod_two_eq_zero_or_one b with hb | hb <;> omega
 have hd:(a ^^^ b) / 2 = a / 2 ^^^ b / 2:=Nat.xor_div_two
 unfold crcBit
 rw [hd,hm]
 rcases Nat.mod_two_eq_zero_or_one a with ha | ha <;> rcases Nat.mod_two_eq_zero_or_one b with hb | hb
 ·rw [if_neg (by omega),if_neg (by omega),if_neg (by omega)]
 ·rw [if_pos (by omega),if_neg (by omega),if_pos (by omega),Nat.xor_assoc]
 ·rw [if_pos (by omega),if_pos (by omega),if_neg (by omega),Nat.xor_assoc,Nat.xor_assoc,Nat.xor_comm (b / 2)]
 ·rw [if_neg (by omega),if_pos (by omega),if_pos (by omega)]
  have:∀ x y p:Nat,(x ^^^ p) ^^^ (y ^^^ p) = x ^^^ y:=fun x y p=>by
   rw [Nat.xor_assoc,Nat.xor_comm p,Nat.xor_assoc y,Nat.xor_self,Nat.xor_zero]
  rw [this]
theorem crcN_xor (k:Nat):∀ a b,crcN k (a ^^^ b) = crcN k a ^^^ crcN k b:=by
 induction k with
 | zero=>intro a b;rfl
 | succ k ih=>intro a b;simp only [crcN,crcBit_xor,ih]
theorem crcBit_even (x:Nat):crcBit (2 * x) = x:=by
 unfold crcBit
 rw [if_neg (by omega)]
 omega
theorem crcN_shift (k:Nat):∀ x,crcN k (2 ^ k * x) = x:=by
 induction k with
 | zero=>intro x;simp [crcN]
 | succ k ih=>intro x;rw [crcN,Nat.pow_succ,Nat.mul_comm (2 ^ k) 2,Nat.mul_assoc,crcBit_even,ih]
theorem split8 (x:Nat):x = (x % 256) ^^^ (256 * (x / 256)):=by
 apply Nat.eq_of_testBit_eq
 intro i
 rw [Nat.testBit_xor,show (256:Nat) = 2 ^ 8 from rfl,Nat.testBit_mod_two_pow,Nat.testBit_two_pow_mul,Nat.testBit_div_two_pow]
 by_cases hi:i < 8
 ·simp [hi,Nat.not_le.2 hi]
 ·simp only [hi,decide_false,Bool.false_and,Bool.false_bne,Nat.not_lt.1 hi,decide_true,Bool.true_and]
  rw [Nat.sub_add_cancel (Nat.not_lt.1 hi)]
theorem crcStep_tab (c:Nat) (b:UInt8):crcStep c b = crcN 8 (c % 256 ^^^ b.toNat) ^^^ (c / 256):=by
 unfold crcStep
 conv=>lhs;rw [split8 c]
 rw [Nat.xor_assoc,Nat.xor_comm (256 * _),← Nat.xor_assoc,crcN_xor]
 congr 1
 exact crcN_shift 8 _
end Go.Proofs.YtapiabmmfmfaeaaGreatDoor
/- The walks of wire.table, wire.Sum and the document's Remainder. -/
namespace Go.Proofs.YtapiabmmfmfaeaaGreatDoor
set_option maxHeartbeats 1000000
open Go Go.RowKit
def zeroTab:Array Value:=Array.replicate 256 (.int .u32 0)
theorem info_tab:(Tryz.prog.info? 132).map (fun i=>(i.zero,i.size,i.bytes)) = some (some (.agg zeroTab),256,1024):=by kernel_rfl
theorem take_snoc (s:ByteArray) (k:Nat) (h:k < s.size):s.data.toList.take (k + 1) = s.data.toList.take k ++ [s[k]]:=by
 rw [List.take_succ_eq_append_getElem (by simpa using h)];rfl
theorem remainder_any (s:ByteArray) (w:World) (hs:s.size ≤ 1000000000) :
  Calls Tryz.prog 54 #[.string s] w fun e w'=>e = .returned (.int .u32 (crc s.data.toList:Nat)) ∧ w' = w:=by
 go_enter Tryz.func54,Tryz.ntmps54
 go_wp2
 go_loop [3,4] (fun c i=>∃ k:Nat,k ≤ s.size ∧ i = .int .i64 k ∧ c = .int .u32 (crcRaw (s.data.toList.take k):Nat)) (fun _ i=>s.size - (intOf i).toNat)
 case atStart=>exact ⟨0,Nat.zero_le _,rfl,rfl⟩
 case round =>
  obtain ⟨k,hk,rfl,rfl⟩:=hrel
  have hc:=crcRaw_lt (s.data.toList.take k)
  by_cases hlt:k < s.size
  ·have hx:bits .xor .u32 ((crcRaw (s.data.toList.take k):Nat):Int) ((s[k].toNat:Int) % 4294967296) = ((crcRaw (s.data.toList.take k) ^^^ s[k].toNat:Nat):Int):=by
    have:=s[k].toNat_lt
    rw [show ((s[k].toNat:Int) % 4294967296) = (s[k].toNat:Int) by omega]
    exact u32_xor_nat _ _ hc (by omega)
   have hx2:crcRaw (s.data.toList.take k) ^^^ s[k].toNat < 4294967296:=xor_lt32 hc (Nat.lt_trans s[k].toNat_lt (by decide))
   have hn:crcRaw (s.data.toList.take (k + 1)) = crcN 8 (crcRaw (s.data.toList.take k) ^^^ s[k].toNat):=by
    rw [take_snoc s k hlt,crcRaw_snoc];rfl
   have Hn:=Lib.hid hn;clear hn
   go_wp2
   clear hx
   generalize hX:crcRaw (s.data.toList.take k) ^^^ s[k].toNat = X at *
   clear hX
   go_loop [3,5] (fun c j=>∃ m:Nat,m ≤ 8 ∧ j = .int .i64 m ∧ c = .int .u32 (crcN m X:Nat)) (fun _ j=>8 - (intOf j).toNat)
   case atStart=>exact ⟨0,by omega,rfl,rfl⟩
   case round =>
    obtain ⟨m,hm,rfl,rfl⟩:=hrel
    have hcm:=crcN_lt m hx2
    have hs:=crcN_succ m X
    unfold crcBit at hs
    by_cases hlt2:m < 8
    ·by_cases hodd:crcN m X % 2 = 1
     ·rw [if_pos hodd] at hs
      have Hs:=Lib.hid hs;clear hs
      go_wp2
      go_round
      case rel=>exact ⟨m + 1,by omega,by go_num,by rw [Hs.out];exact congrArg _ (u32_xor_nat (crcN m X / 2) 3988292384 (by omega) (by decide))⟩
      case measure=>simp [intOf];omega
     ·rw [if_neg hodd] at hs
      have Hs:=Lib.hid hs;clear hs
      go_wp2
      go_round
      case rel=>exact ⟨m + 1,by omega,by go_num,by rw [Hs.out];rfl⟩
      case measure=>simp [intOf];omega
    ·obtain rfl:m = 8:=by omega
     clear hs
     go_wp2
     go_round
     case rel=>exact ⟨k + 1,by omega,by go_num,by rw [Hn.out]⟩
     case measure=>simp [intOf];omega
  ·obtain rfl:k = s.size:=by omega
   have ht:s.data.toList.take s.size = s.data.toList:=List.take_of_length_le (by simp)
   have Ht:=Lib.hid ht;clear ht
   go_wp2
   go_ret
   refine ⟨ret_of ?_,rfl⟩
   show Value.int .u32 (bits .xor .u32 ((crcRaw (List.take s.size s.data.toList):Nat):Int) 4294967295) = _
   rw [Ht.out]
   rw [Ht.out] at hc
   exact congrArg _ (u32_xor_nat _ 4294967295 hc (by decide))
def tabTo (k:Nat):Array Value:=((List.range 256).map fun i=>if i < k then Value.int .u32 ((crcN 8 i:Nat):Int) else .int .u32 0).toArray
theorem size_tabTo (k:Nat):(tabTo k).size = 256:=by simp [tabTo]
theorem tabTo_zero:tabTo 0 = zeroTab:=by kernel_rfl
theorem tabTo_set (k:Nat):(tabTo k).setIfInBounds k (.int .u32 ((crcN 8 k:Nat):Int)) = tabTo (k + 1):=by
 apply Array.ext
 ·simp [tabTo]
 ·intro i h1 h2
  simp only [tabTo,Array.size_setIfInBounds,List.size_toArray,List.length_map,List.length_range] at h1
  by_cases h:k = i
  ·subst h;simp [tabTo]
  ·simp [tabTo,h]
   by_cases h3:i < k
   ·simp [h3,show i < k + 1 by omega]
   ·simp [h3,show ¬ i < k + 1 by omega]
theorem tabTo_get (i:Nat) (h:i < 256):(tabTo 256)[i]? = some (.int .u32 ((crcN 8 i:Nat):Int)):=by
 simp [tabTo,h]
theorem tabTo_one (k:Nat):(tabTo k).all (·.oneCell') = true:=by
 rw [Array.all_eq_true_iff_forall_mem]
 intro v hv
 simp only [tabTo,List.mem_toArray,List.mem_map] at hv
 obtain ⟨i,_,rfl⟩:=hv
 split <;> rfl
theorem and1_u32 (c:Nat) (h:c < 4294967296):bits .and .u32 (c:Int) 1 = ((c % 2:Nat):Int):=by
 rw [show (1:Int) = ((1:Nat):Int) from rfl,u32_and_nat c 1 h (by decide),nat_mask1]
set_option maxRecDepth 100000 in
theorem table_any (w:World) :
  Calls Tryz.prog 73 #[] w fun e w'=>e = .returned (.agg (tabTo 256)) ∧ Below w.heap.size w w':=by
 obtain ⟨i0,hi,hz0,hz1,hz2⟩:=info_parts info_tab
 go_enter Tryz.func73,Tryz.ntmps73
 go_wp2_with (refine wpList_alloc_row rfl 132 rfl i0 (.agg zeroTab) zeroTab hi hz0 rfl ?_)
 have hb0:Below w.heap.size w ((w.alloc (.cells zeroTab 132)).alloc (.cells zeroTab 132)):=((Below.refl _ _).alloc (Nat.le_refl _) _).alloc (by simp) _
 have hB0:((w.alloc (.cells zeroTab 132)).alloc (.cells zeroTab 132)).heap[w.heap.size]? = some (.cells (tabTo 0) 132):=by rw [tabTo_zero];exact heap_alloc2_old _ _ _
 have hB1:((w.alloc (.cells zeroTab 132)).alloc (.cells zeroTab 132)).heap[w.heap.size + 1]? = some (.cells (tabTo 0) 132):=by rw [tabTo_zero];exact heap_alloc2_new _ _ _
 generalize ((w.alloc (.cells zeroTab 132)).alloc (.cells zeroTab 132)) = w1 at *
 go_loopw [4] (fun i wr=>∃ k:Nat,k ≤ 256 ∧ i = .int .i64 k ∧ wr.heap[w.heap.size]? = some (.cells (tabTo 0) 132) ∧ wr.heap[w.heap.size + 1]? = some (.cells (tabTo k) 132) ∧ Below w.heap.size w wr) (fun i _=>256 - (intOf i).toNat)
 case atStart=>exact ⟨0,by omega,rfl,hB0,hB1,hb0⟩
 case round =>
  obtain ⟨k,hk,rfl,h0,h1,hb⟩:=hrel
  clear hb0 hB0 hB1 hi hz0 hz1 hz2
  have H0:=Lib.hid h0;have H1:=Lib.hid h1;clear h0 h1
  by_cases hlt:k < 256
  ·go_wp2
   obtain ⟨wo,hwo⟩:∃ wo:World,wo = wr:=⟨_,rfl⟩
   subst hwo
   go_loop [3,9] (fun c j=>∃ m:Nat,m ≤ 8 ∧ j = .int .i64 m ∧ c = .int .u32 (crcN m k:Nat)) (fun _ j=>8 - (intOf j).toNat)
   case atStart=>exact ⟨0,by omega,rfl,rfl⟩
   case round =>
    obtain ⟨m,hm,rfl,rfl⟩:=hrel
    have hcm:=crcN_lt (c:=k) m (by omega)
    have hs:=crcN_succ m k
    have ha:=and1_u32 _ hcm
    unfold crcBit at hs
    by_cases hlt2:m < 8
    ·by_cases hodd:crcN m k % 2 = 1
     ·rw [if_pos hodd] at hs
      rw [hodd] at ha
      have Hs:=Lib.hid hs;clear hs
      go_wp2
      go_round
      case rel=>exact ⟨m + 1,by omega,by go_num,by rw [Hs.out];exact congrArg _ (u32_xor_nat (crcN m k / 2) 3988292384 (by omega) (by decide))⟩
      case measure=>simp [intOf];omega
     ·rw [if_neg hodd] at hs
      rw [show crcN m k % 2 = 0 by omega] at ha
      have Hs:=Lib.hid hs;clear hs
      go_wp2
      go_round
      case rel=>exact ⟨m + 1,by omega,by go_num,by rw [Hs.out];exact congrArg _ ((u32_xor_nat (crcN m k / 2) 0 (by omega) (by decide)).trans (by rw [Nat.xor_zero]))⟩
      case measure=>simp [intOf];omega
    ·obtain rfl:m = 8:=by omega
     clear hs ha
     have hcell:wo.cell? ⟨w.heap.size + 1,k,none⟩ = some ((tabTo k)[k]'(by simp [tabTo];omega)):=by
      rw [cell_of_row wo _ _ _ _ _ H1.out];simp
     have hfroz:wo.frozen? ⟨w.heap.size + 1,k,none⟩ = false:=frozen_of_row wo _ _ _ _ H1.out
     go_wp2
     go_roundw
     case rel =>
      refine ⟨k + 1,by omega,by go_num,?_,?_,hb.setCell (by simp) _⟩
      ·rw [heap_setCell_other _ _ _ _ (by simp)];exact H0.out
      ·rw [heap_setCell_same _ _ _ _ _ _ H1.out,tabTo_set]
     case measure=>simp [intOf];omega
  ·obtain rfl:k = 256:=by omega
   go_wp2_with (first | (refine wpList_load_row rfl 132 _ rfl _ rfl _ _ _ _ H1.out Tryz.underlying132 rfl (by kernel_rfl) ?_) | (refine wpList_store_row rfl rfl 132 _ _ rfl _ rfl _ (tabTo 256) rfl _ H0.out (by kernel_rfl) (by rw [size_tabTo,size_tabTo]) (tabTo_one 256) ?_))
   refine bodyPost_ret (v:=.agg (tabTo 256)) (results_cell_row Tryz.results73 _ _ w.heap.size 132 _ (0,0) _ rfl (setRow_heap _ _ _ _ _ _ H0.out) Tryz.underlying132 rfl (by kernel_rfl)) rfl ⟨rfl,below_setRow hb (Nat.le_refl _) _⟩
end Go.Proofs.YtapiabmmfmfaeaaGreatDoor
/- The walk of wire.Sum. -/
namespace Go.Proofs.YtapiabmmfmfaeaaGreatDoor
set_option maxHeartbeats 1000000
open Go Go.RowKit
set_option maxRecDepth 100000 in
theorem sum_any (s:ByteArray) (w:World) (hs:s.size ≤ 1000000000) :
  Calls Tryz.prog 39 #[.string s] w fun e w'=>e = .returned (.int .u32 (crc s.data.toList:Nat)) ∧ Below w.heap.size w w':=by
 obtain ⟨i0,hi,hz0,hz1,hz2⟩:=info_parts info_tab
 go_enter Tryz.func39,Tryz.ntmps39
 go_wp2_with fail
 refine (table_any _).mono ?_
 rintro e w1 ⟨rfl,hb1⟩
 go_wp2_with (first | (refine wpList_alloc_row rfl 132 rfl i0 (.agg zeroTab) zeroTab hi hz0 rfl ?_) | (refine wpList_store_row rfl rfl 132 _ _ rfl _ rfl zeroTab (tabTo 256) rfl _ (heap_alloc_new _ _) (by kernel_rfl) (by simp [zeroTab,size_tabTo]) (tabTo_one 256) ?_))
 have hB:((w1.alloc (.cells zeroTab 132)).setRow w1.heap.size (tabTo 256)).heap[w1.heap.size]? = some (.cells (tabTo 256) 132):=setRow_heap _ _ _ _ _ _ (heap_alloc_new _ _)
 have hb2:Below w.heap.size w ((w1.alloc (.cells zeroTab 132)).setRow w1.heap.size (tabTo 256)):=below_setRow (hb1.alloc hb1.size _) hb1.size _
 generalize ((w1.alloc (.cells zeroTab 132)).setRow w1.heap.size (tabTo 256)) = w2 at *
 generalize w1.heap.size = g at *
 have HB:=Lib.hid hB;clear hB
 clear hi hz0 hz1 hz2
 go_loop [4,9] (fun c i=>∃ k:Nat,k ≤ s.size ∧ i = .int .i64 k ∧ c = .int .u32 (crcRaw (s.data.toList.take k):Nat)) (fun _ i=>s.size - (intOf i).toNat)
 case atStart=>exact ⟨0,Nat.zero_le _,rfl,rfl⟩
 case round =>
  obtain ⟨k,hk,rfl,rfl⟩:=hrel
  have hc:=crcRaw_lt (s.data.toList.take k)
  by_cases hlt:k < s.size
  ·have hx:bits .xor .u8 (((crcRaw (s.data.toList.take k):Nat):Int) % 256) (s[k].toNat:Int) = ((crcRaw (s.data.toList.take k) % 256 ^^^ s[k].toNat:Nat):Int):=by
    have:=s[k].toNat_lt
    rw [show (((crcRaw (s.data.toList.take k):Nat):Int) % 256) = ((crcRaw (s.data.toList.take k) % 256:Nat):Int) by omega]
    exact u8_xor_nat _ _ (by omega) this
   have hx2:crcRaw (s.data.toList.take k) % 256 ^^^ s[k].toNat < 256:=Nat.xor_lt_two_pow (n:=8) (Nat.mod_lt _ (by decide)) s[k].toNat_lt
   have hn:crcRaw (s.data.toList.take (k + 1)) = crcN 8 (crcRaw (s.data.toList.take k) % 256 ^^^ s[k].toNat) ^^^ (crcRaw (s.data.toList.take k) / 256):=by
    rw [take_snoc s k hlt,crcRaw_snoc,crcStep_tab]
   have Hn:=Lib.hid hn;clear hn
   generalize crcRaw (s.data.toList.take k) % 256 ^^^ s[k].toNat = X at *
   have hcell:w2.cell? ⟨g,X,none⟩ = some (.int .u32 ((crcN 8 X:Nat):Int)):=by
    rw [cell_of_row w2 _ _ _ _ _ HB.out];exact tabTo_get X hx2
   have hX:=crcN_lt (c:=X) 8 (by omega)
   go_wp2
   go_round
   case rel=>exact ⟨k + 1,by omega,by go_num,by rw [Hn.out];exact congrArg _ (u32_xor_nat (crcN 8 X) (crcRaw (List.take k s.data.toList) / 256) hX (by omega))⟩
   case measure=>simp [intOf];omega
  ·obtain rfl:k = s.size:=by omega
   have ht:s.data.toList.take s.size = s.data.toList:=List.take_of_length_le (by simp)
   have Ht:=Lib.hid ht;clear ht
   go_wp2
   go_ret
   refine ⟨ret_of ?_,hb2⟩
   show Value.int .u32 (bits .xor .u32 IntKind.u32.max ((crcRaw (List.take s.size s.data.toList):Nat):Int)) = _
   rw [Ht.out]
   rw [Ht.out] at hc
   rw [show IntKind.u32.max = ((4294967295:Nat):Int) by decide]
   exact congrArg _ ((u32_xor_nat 4294967295 _ (by decide) hc).trans (by rw [Nat.xor_comm];rfl))
end Go.Proofs.YtapiabmmfmfaeaaGreatDoor
