/- Merged texts: WireW1, WireW5, WireW6, WireW7, WireW8, WireW9. -/
import Derived.Test.YtapiabmmfmfaeaaGreatDoorRows
import Derived.Test.YtapiabmmfmfaeaaGreatDoorMPlain
import Derived.IntWalk
import Derived.Deep.QuietTactic
import Derived.BigQuiet
import Derived.Laws.DeepNot64
/- The walks of wire.Uvarint, wire.Varint and the document's Byte, Seven, Signed. -/
namespace Go.Proofs.YtapiabmmfmfaeaaGreatDoor
set_option maxHeartbeats 1000000
open Go Go.RowKit
theorem info_u8:(Tryz.prog.info? 5).map (fun i=>(i.zero,i.size,i.bytes)) = some (some (.int .u8 0),1,1):=by kernel_rfl
theorem byteV_ofNat {n:Int} {m:Nat} (h:n = (m:Int)) (hm:m < 256):(.int .u8 n:Value) = byteV (UInt8.ofNat m):=by
 subst h;unfold byteV;rw [UInt8.toNat_ofNat',Nat.mod_eq_of_lt hm]
theorem or_top (x:Nat) (h:x < 256):x ||| 128 = x % 128 + 128:=by
 by_cases hx:x < 128
 ·rw [Nat.or_comm,Nat.mod_eq_of_lt hx,Nat.add_comm]
  exact nat_join 7 128 x (by decide) hx
 ·have:x = 128 + x % 128:=by omega
  rw [this,← nat_join 7 128 (x % 128) (by decide) (by omega),Nat.or_comm,← Nat.or_assoc,Nat.or_self,nat_join 7 128 _ (by decide) (by omega)]
  omega
theorem or128 (m:Nat):bits .or .u8 ((m:Int) % 256) 128 = ((m % 128 + 128:Nat):Int):=by
 have h:((m:Int) % 256) = ((m % 256:Nat):Int):=by omega
 rw [h]
 have:=u8_or_nat (m % 256) 128 (by omega) (by omega)
 rw [show ((128:Nat):Int) = 128 from rfl] at this
 rw [this]
 congr 1
 have e:=or_top (m % 256) (by omega)
 rw [e]
 omega
set_option maxRecDepth 100000 in
theorem uvarint_any (n:Int) (w:World) (h0:0 ≤ n) (h1:n < 18446744073709551616) :
  Calls Tryz.prog 72 #[.int .u64 n] w fun e w'=>e = .returned (.string ⟨(seven n.toNat).toArray⟩) ∧ Below w.heap.size w w':=by
 obtain ⟨i0,hi,hz0,hz1,hz2⟩:=info_parts info_u8
 have hlen:=seven_len (n:=n.toNat) (by omega)
 go_enter Tryz.func72,Tryz.ntmps72
 go_wp2
 go_loopw [0,3] (fun x v wr=>∃ (m:Nat) (l:List UInt8),x = .int .u64 m ∧ m < 18446744073709551616 ∧ wr.ownsRow w.heap.size 5 1 v l.length (l.map byteV) ∧ l ++ seven m = seven n.toNat ∧ Below w.heap.size w wr) (fun x _ _=>(intOf x).toNat)
 case atStart=>exact ⟨n.toNat,[],by simp;omega,by omega,World.ownsRow_nil _ _ _ _,by simp,Below.refl _ _⟩
 case round =>
  obtain ⟨m,l,rfl,hm,hown,hsev,hb⟩:=hrel
  have hl:l.length ≤ 10:=by rw [← hsev,List.length_append] at hlen;omega
  have Hs:=Lib.hid hsev;clear hsev
  have Ho:=Lib.hid hown;clear hown
  have h63:l.length + 1 ≤ maxLen:=by unfold maxLen;omega
  by_cases hlt:128 ≤ m
  ·go_wp2_with (at_builtin;refine wpList_push rfl _ _ 129 rfl w.heap.size 5 i0 (.int .u8 0) 1 Tryz.underlying129 hi hz0 hz1 hz2 rfl byteV byteV_one _ _ rfl Ho.out _ _ rfl h63 (by omega) hb.size (UInt8.ofNat (m % 128 + 128)) (byteV_ofNat (or128 m) (by omega)) ?_;intro v' w1 hown' hb' hnn;have Ho':=Lib.hid hown';clear hown')
   go_roundw
   case rel=>exact ⟨m / 128,l ++ [UInt8.ofNat (m % 128 + 128)],by go_num,by omega,Ho'.out,by rw [← Hs.out,seven_ge hlt];simp,hb.trans hb'⟩
   case measure=>simp [intOf];omega
  ·go_wp2_with (at_builtin;refine wpList_push rfl _ _ 129 rfl w.heap.size 5 i0 (.int .u8 0) 1 Tryz.underlying129 hi hz0 hz1 hz2 rfl byteV byteV_one _ _ rfl Ho.out _ _ rfl h63 (by omega) hb.size (UInt8.ofNat m) (byteV_ofNat rfl (by omega)) ?_;intro v' w1 hown' hb' hnn;have hstr:=run_own_string (src:=129) (dst:=9) Tryz.underlying129 Tryz.underlying5 Tryz.underlying9 hown';have Ho':=Lib.hid hown';clear hown')
   go_ret
   exact ⟨ret_of (str_of (by rw [← Hs.out,seven_lt (by omega)])),hb.trans hb'⟩
theorem byte_any (n:Int) (w:World) :
  Calls Tryz.prog 118 #[.int .i64 n] w fun e w'=>e = .returned (.string ⟨#[UInt8.ofNat (n % 256).toNat]⟩) ∧ Below w.heap.size w w':=by
 have hs:=run_lit_string (P:=Tryz.prog) (src:=129) (dst:=9) w (n % 256) Tryz.underlying129 Tryz.underlying5 Tryz.underlying9 (by omega) (by omega)
 go_enter Tryz.func118,Tryz.ntmps118
 go_wp2
 go_ret
 exact ⟨rfl,(Below.refl _ _).alloc (Nat.le_refl _) _⟩
set_option maxRecDepth 100000 in
theorem sevenOf_any (n:Int) (w:World) (h0:0 ≤ n) (h1:n < 18446744073709551616) :
  Calls Tryz.prog 119 #[.int .u64 n] w fun e w'=>e = .returned (.string ⟨(seven n.toNat).toArray⟩) ∧ Below w.heap.size w w':=by
 have hlen:=seven_len (n:=n.toNat) (by omega)
 go_enter Tryz.func119,Tryz.ntmps119
 go_wp2
 go_loopw [0,3] (fun x v wr=>∃ (m:Nat) (l:List UInt8),x = .int .u64 m ∧ m < 18446744073709551616 ∧ v = .string ⟨l.toArray⟩ ∧ l ++ seven m = seven n.toNat ∧ Below w.heap.size w wr) (fun x _ _=>(intOf x).toNat)
 case atStart=>exact ⟨n.toNat,[],by simp;omega,by omega,rfl,by simp,Below.refl _ _⟩
 case round =>
  obtain ⟨m,l,rfl,hm,rfl,hsev,hb⟩:=hrel
  have hl:l.length ≤ 10:=by rw [← hsev,List.length_append] at hlen;omega
  have Hs:=Lib.hid hsev;clear hsev
  by_cases hlt:127 < m
  ·go_wp2_with (go_at_call 118;refine (byte_any _ _).mono ?_;rintro e w1 ⟨rfl,hb1⟩)
   go_roundw
   case rel=>exact ⟨m / 128,l ++ [UInt8.ofNat (m % 128 + 128)],by go_num,by omega,by rw [ByteArray.mk_append_mk l [_],Nat.mod_eq_of_lt (show m % 128 + 128 < 256 by omega)],by rw [← Hs.out,seven_ge (show 128 ≤ m by omega),List.append_assoc];rfl,below_trans hb hb1⟩
   case measure=>simp [intOf];omega
  ·go_wp2_with (go_at_call 118;refine (byte_any _ _).mono ?_;rintro e w1 ⟨rfl,hb1⟩)
   go_ret
   exact ⟨ret_of (by show Value.string (_ ++ _) = _;rw [ByteArray.mk_append_mk l [_],← Hs.out,seven_lt (by omega),Nat.mod_eq_of_lt (show m < 256 by omega)]),below_trans hb hb1⟩
theorem xor_ones (a:Nat) (h:a < 18446744073709551616):a ^^^ 18446744073709551615 = 18446744073709551615 - a:=by
 have e:(BitVec.ofNat 64 a ^^^ BitVec.allOnes 64).toNat = (~~~ (BitVec.ofNat 64 a)).toNat:=by rw [BitVec.xor_allOnes]
 rw [BitVec.toNat_xor,BitVec.toNat_not,BitVec.toNat_ofNat,BitVec.toNat_allOnes,Nat.mod_eq_of_lt h] at e
 exact e
theorem zig_xor (n:Int) (h0:-9223372036854775808 ≤ n) (h1:n < 9223372036854775808) :
  bits .xor .u64 (IntKind.u64.wrap (IntKind.u64.wrap n * 2)) (IntKind.u64.wrap (n / 9223372036854775808)) = ((zig n:Nat):Int):=by
 simp only [IntKind.wrap_u64]
 unfold zig
 by_cases h:n < 0
 ·rw [if_pos h]
  obtain ⟨a,ha⟩:∃ a:Nat,n % 18446744073709551616 * 2 % 18446744073709551616 = (a:Int):=⟨(n % 18446744073709551616 * 2 % 18446744073709551616).toNat,by omega⟩
  have e1:n / 9223372036854775808 % 18446744073709551616 = ((18446744073709551615:Nat):Int):=by omega
  rw [e1,ha,u64_xor_nat a _ (by omega) (by omega),xor_ones a (by omega)]
  omega
 ·rw [if_neg h]
  obtain ⟨a,ha⟩:∃ a:Nat,n % 18446744073709551616 * 2 % 18446744073709551616 = (a:Int):=⟨(n % 18446744073709551616 * 2 % 18446744073709551616).toNat,by omega⟩
  have e1:n / 9223372036854775808 % 18446744073709551616 = ((0:Nat):Int):=by omega
  rw [e1,ha,u64_xor_nat a _ (by omega) (by omega),Nat.xor_zero]
  omega
set_option maxRecDepth 100000 in
theorem varint_any (n:Int) (w:World) (h0:-9223372036854775808 ≤ n) (h1:n < 9223372036854775808) :
  Calls Tryz.prog 111 #[.int .i64 n] w fun e w'=>e = .returned (.string ⟨(seven (zig n)).toArray⟩) ∧ Below w.heap.size w w':=by
 have hz:=zig_xor n h0 h1
 have hl:=zig_lt h0 h1
 go_enter Tryz.func111,Tryz.ntmps111
 go_wp2_with (go_at_call 72;refine (uvarint_any _ _ (by omega) (by omega)).mono ?_;rintro e w1 ⟨rfl,hb1⟩)
 go_ret
 exact ⟨rfl,hb1⟩
set_option maxRecDepth 100000 in
theorem signed_any (n:Int) (w:World) (h0:-9223372036854775808 ≤ n) (h1:n < 9223372036854775808) :
  Calls Tryz.prog 117 #[.int .i64 n] w fun e w'=>e = .returned (.string ⟨(seven (zig n)).toArray⟩) ∧ Below w.heap.size w w':=by
 have hl:=zig_lt h0 h1
 by_cases h:n < 0
 ·have hz:(-(n + 1) * 2 + 1) = ((zig n:Nat):Int):=by unfold zig;rw [if_pos h];omega
  have Hz:=Lib.hid hz
  go_enter Tryz.func117,Tryz.ntmps117
  clear hz
  go_wp2_with (go_at_call 119;rw [Hz.out];refine (sevenOf_any _ _ (by omega) (by omega)).mono ?_;rintro e w1 ⟨rfl,hb1⟩)
  go_ret
  exact ⟨rfl,hb1⟩
 ·have hz:n * 2 = ((zig n:Nat):Int):=by unfold zig;rw [if_neg h];omega
  have h:0 ≤ n:=by omega
  have Hz:=Lib.hid hz
  go_enter Tryz.func117,Tryz.ntmps117
  clear hz
  go_wp2_with (go_at_call 119;rw [Hz.out];refine (sevenOf_any _ _ (by omega) (by omega)).mono ?_;rintro e w1 ⟨rfl,hb1⟩)
  go_ret
  exact ⟨rfl,hb1⟩
end Go.Proofs.YtapiabmmfmfaeaaGreatDoor
/- The walks of wire.ReadUvarint, wire.ReadVarint. -/
namespace Go.Proofs.YtapiabmmfmfaeaaGreatDoor
set_option maxHeartbeats 1000000
open Go Go.RowKit
def uRet (ev:Value):Option (Nat × Nat) → Value
 | some (n,k)=>.tuple #[.int .u64 (n:Int),.int .i64 (k:Int),.nilIface]
 | none=>.tuple #[.int .u64 0,.int .i64 0,ev]
theorem drop_cons (s:ByteArray) (k:Nat) (h:k < s.size):s.data.toList.drop k = s[k] :: s.data.toList.drop (k + 1):=by
 rw [List.drop_eq_getElem_cons (by simpa using h)];rfl
theorem or_acc (acc m k:Nat) (hk:k ≤ 9) (h9:k = 9 → m ≤ 1) (ha:acc < 128 ^ k) :
  bits .or .u64 (acc:Int) (IntKind.u64.wrap ((m:Int) % 128 * 2 ^ (7 * k))) = ((acc + m % 128 * 128 ^ k:Nat):Int):=by
 have e:(2:Nat) ^ (7 * k) = 128 ^ k:=by rw [Nat.pow_mul]
 have hb:acc + m % 128 * 128 ^ k < 18446744073709551616:=by
  by_cases h:k = 9
  ·subst h
   have:=h9 rfl
   have h2:m % 128 * 128 ^ 9 ≤ 1 * 128 ^ 9:=Nat.mul_le_mul_right _ (by omega)
   omega
  ·have h1:(128:Nat) ^ k ≤ 128 ^ 8:=Nat.pow_le_pow_right (by decide) (by omega)
   have h2:m % 128 * 128 ^ k ≤ 127 * 128 ^ 8:=Nat.mul_le_mul (by omega) h1
   omega
 rw [IntKind.wrap_u64,show ((m:Int) % 128 * 2 ^ (7 * k)) = ((m % 128 * 2 ^ (7 * k):Nat):Int) by simp,e]
 generalize hx:m % 128 * 128 ^ k = x at *
 rw [show ((x:Int) % 18446744073709551616) = (x:Int) by omega,u64_or_nat _ _ (by omega) (by omega)]
 congr 1
 rw [Nat.or_comm,Nat.add_comm]
 rw [← e] at ha hx
 refine nat_join (7 * k) _ _ ?_ ha
 rw [← hx]
 exact Nat.mul_mod_left _ _
set_option maxRecDepth 100000 in
theorem readUvarint_any (s:ByteArray) (ev:Value) (w:World) (hs:s.size ≤ maxLen) (hev:w.cell? ⟨1,0,none⟩ = some ev) :
  Calls Tryz.prog 37 #[.string s] w fun e w'=>e = .returned (uRet ev (readU s.data.toList)) ∧ Below w.heap.size w w':=by
 unfold maxLen at hs
 go_enter Tryz.func37,Tryz.ntmps37
 go_wp2
 go_loop [2,5,6] (fun n i _=>∃ k acc:Nat,k ≤ s.size ∧ k ≤ 10 ∧ i = .int .i64 k ∧ n = .int .u64 acc ∧ acc < 128 ^ k ∧ rdU k (s.data.toList.drop k) acc = readU s.data.toList) (fun _ i _=>10 - (intOf i).toNat)
 case atStart=>exact ⟨0,0,by omega,by omega,rfl,rfl,by decide,rfl⟩
 case round =>
  obtain ⟨k,acc,hk,hk10,rfl,rfl,hacc,hrd⟩:=hrel
  by_cases hlt:k < s.size
  ·by_cases h10:k < 10
   ·rw [drop_cons s k hlt,rdU] at hrd
    have hb:=s[k].toNat_lt
    obtain ⟨m,hm⟩:∃ m,s[k].toNat = m:=⟨_,rfl⟩
    rw [hm] at hrd hb
    by_cases hbad:10 ≤ k ∨ (k = 9 ∧ 1 < m) ∨ (m = 0 ∧ 0 < k)
    ·rw [if_pos hbad] at hrd
     have Hrd:=Lib.hid hrd;clear hrd
     by_cases h9:k = 9 ∧ 1 < m
     ·obtain ⟨rfl,h1⟩:=h9
      have b1:decide (1 < (m:Int)) = true:=by simp;omega
      clear hbad
      go_wp2
      go_quiet (fail)
      go_wp2
      go_ret3
      exact ⟨by rw [← Hrd.out];rfl,below_drewN (Below.refl _ _) _⟩
     ·obtain ⟨rfl,h1⟩:m = 0 ∧ 0 < k:=by omega
      clear hbad
      by_cases h9':k = 9
      ·subst h9'
       clear h9
       go_wp2
       go_quiet (fail)
       go_wp2
       go_ret3
       exact ⟨by rw [← Hrd.out];rfl,below_drewN (Below.refl _ _) _⟩
      ·have b9:((k:Int) == 9) = false:=by simp;omega
       have b0:decide (0 < (k:Int)) = true:=by simp;omega
       clear h9 h9'
       go_wp2
       go_quiet (fail)
       go_wp2
       go_ret3
       exact ⟨by rw [← Hrd.out];rfl,below_drewN (Below.refl _ _) _⟩
    ·rw [if_neg hbad] at hrd
     have n1:k = 9 → m ≤ 1:=by omega
     have n2:m = 0 → k = 0:=by omega
     clear hbad
     have ha:bits .and .u8 (m:Int) 127 = (m:Int) % 128:=by
      rw [show (127:Int) = ((127:Nat):Int) from rfl,u8_and_nat m 127 (by omega) (by decide),nat_mask7];rfl
     have hor:=or_acc acc m k (by omega) n1 hacc
     have hacc':acc + m % 128 * 128 ^ k < 128 ^ (k + 1):=by
      have h3:m % 128 * 128 ^ k ≤ 127 * 128 ^ k:=Nat.mul_le_mul_right _ (by omega)
      rw [Nat.pow_succ];omega
     have Hor:=Lib.hid hor;have Hacc':=Lib.hid hacc';clear hor hacc hacc'
     have b0:((m:Int) == 0) = decide (m = 0):=by rw [Bool.eq_iff_iff];simp
     by_cases h9:k = 9
     ·have b9:((k:Int) == 9) = true:=by simp;omega
      have b1:decide (1 < (m:Int)) = false:=by simp;have:=n1 h9;omega
      have bm:((m:Int) == 0) = false:=by simp;omega
      have h128:m < 128:=by omega
      rw [if_pos h128] at hrd
      have Hrd:=Lib.hid hrd;clear hrd n1 n2 h9 b0
      go_wp2
      go_ret3
      refine ⟨ret_of ?_,Below.refl _ _⟩
      rw [← Hrd.out]
      show Value.tuple #[.int .u64 (bits .or .u64 _ _),_,_] = _
      rw [Hor.out,Nat.mod_eq_of_lt h128]
      rfl
     ·have b9:((k:Int) == 9) = false:=by simp;omega
      clear n1 h9 b0
      by_cases h0:m = 0
      ·have h00:=n2 h0
       have bm:((m:Int) == 0) = true:=by simp;omega
       have b0:decide (0 < k) = false:=by simp;omega
       have h128:m < 128:=by omega
       rw [if_pos h128] at hrd
       have Hrd:=Lib.hid hrd;clear hrd n2 h0 h00
       go_wp2
       go_ret3
       refine ⟨ret_of ?_,Below.refl _ _⟩
       rw [← Hrd.out]
       show Value.tuple #[.int .u64 (bits .or .u64 _ _),_,_] = _
       rw [Hor.out,Nat.mod_eq_of_lt h128]
       rfl
      ·have bm:((m:Int) == 0) = false:=by simp;omega
       by_cases h128:m < 128
       ·rw [if_pos h128] at hrd
        have Hrd:=Lib.hid hrd;clear hrd n2
        go_wp2
        go_ret3
        refine ⟨ret_of ?_,Below.refl _ _⟩
        rw [← Hrd.out]
        show Value.tuple #[.int .u64 (bits .or .u64 _ _),_,_] = _
        rw [Hor.out,Nat.mod_eq_of_lt h128]
        rfl
       ·rw [if_neg h128] at hrd
        have Hrd:=Lib.hid hrd;clear hrd n2
        go_wp2
        go_roundw
        case rel=>exact ⟨k + 1,acc + m % 128 * 128 ^ k,by omega,by omega,by go_num,by rw [Hor.out],Hacc'.out,Hrd.out⟩
        case measure=>simp [intOf];omega
   ·obtain rfl:k = 10:=by omega
    have hnone:readU s.data.toList = none:=by
     rw [← hrd,drop_cons s 10 hlt,rdU,if_pos (.inl (Nat.le_refl _))]
    have Hrd:=Lib.hid hnone;clear hrd hnone hacc
    go_wp2
    go_quiet (fail)
    go_wp2
    go_ret3
    exact ⟨by rw [Hrd.out];rfl,below_drewN (Below.refl _ _) _⟩
  ·have hnone:readU s.data.toList = none:=by
    rw [← hrd,List.drop_of_length_le (by simp;omega),rdU]
   have Hrd:=Lib.hid hnone;clear hrd hnone
   go_wp2
   go_quiet (fail)
   go_wp2
   go_ret3
   exact ⟨by rw [Hrd.out];rfl,below_drewN (Below.refl _ _) _⟩
theorem readUvarint_some (s:ByteArray) (ev:Value) (w:World) (hs:s.size ≤ maxLen) (hev:w.cell? ⟨1,0,none⟩ = some ev) {n k:Nat} (h:readU s.data.toList = some (n,k)) :
  Calls Tryz.prog 37 #[.string s] w fun e w'=>e = .returned (.tuple #[.int .u64 (n:Int),.int .i64 (k:Int),.nilIface]) ∧ Below w.heap.size w w' :=
 (readUvarint_any s ev w hs hev).mono fun _ _ ⟨h1,h2⟩=>⟨by rw [h1,h];rfl,h2⟩
theorem readUvarint_none (s:ByteArray) (ev:Value) (w:World) (hs:s.size ≤ maxLen) (hev:w.cell? ⟨1,0,none⟩ = some ev) (h:readU s.data.toList = none) :
  Calls Tryz.prog 37 #[.string s] w fun e w'=>e = .returned (.tuple #[.int .u64 0,.int .i64 0,ev]) ∧ Below w.heap.size w w' :=
 (readUvarint_any s ev w hs hev).mono fun _ _ ⟨h1,h2⟩=>⟨by rw [h1,h];rfl,h2⟩
theorem bits_xor_comm (k:IntKind) (x y:Int):bits .xor k x y = bits .xor k y x:=by
 unfold bits
 simp only [BitVec.xor_comm]
theorem xor_zero_i64 (a:Nat) (ha:a < 9223372036854775808):bits .xor .i64 (a:Int) 0 = (a:Int):=by
 show IntKind.i64.wrap ((BitVec.ofInt 64 (a:Int) ^^^ BitVec.ofInt 64 0).toNat:Int) = _
 rw [show BitVec.ofInt 64 0 = 0#64 by decide,BitVec.xor_zero,ofInt_u64 a (by omega),IntKind.wrap_i64]
 omega
theorem unzig_xor (u:Nat) (h:u < 18446744073709551616) :
  bits .xor .i64 ((u:Int) / 2) (wrap64 (-wrap64 (bits .and .u64 (u:Int) 1))) = unzig u:=by
 unfold unzig
 rw [show (1:Int) = ((1:Nat):Int) from rfl,u64_and_nat u 1 h (by decide),nat_mask1,show ((u:Int) / 2) = ((u / 2:Nat):Int) by omega]
 rcases Nat.mod_two_eq_zero_or_one u with h0 | h0
 ·rw [if_neg (by omega),h0,show wrap64 (-wrap64 ((0:Nat):Int)) = 0 by decide +kernel]
  exact xor_zero_i64 _ (by omega)
 ·rw [if_pos h0,h0,show wrap64 (-wrap64 ((1:Nat):Int)) = -1 by decide +kernel,bits_xor_comm,i64_not _ (by omega)]
  omega
def vRet (ev:Value):Option (Int × Nat) → Value
 | some (n,k)=>.tuple #[.int .i64 n,.int .i64 (k:Int),.nilIface]
 | none=>.tuple #[.int .i64 0,.int .i64 0,ev]
set_option maxRecDepth 100000 in
theorem readVarint_any (s:ByteArray) (ev:Value) (w:World) (hs:s.size ≤ maxLen) (hev:w.cell? ⟨1,0,none⟩ = some ev) :
  Calls Tryz.prog 81 #[.string s] w fun e w'=>e = .returned (vRet ev (readV s.data.toList)) ∧ Below w.heap.size w w':=by
 cases hr:readU s.data.toList with
 | none =>
  have hv:readV s.data.toList = none:=by simp [readV,hr]
  rw [hv]
  go_enter Tryz.func81,Tryz.ntmps81
  go_wp2_with (go_at_call 37;refine (readUvarint_none s ev _ hs hev hr).mono ?_;rintro e w1 ⟨rfl,hb1⟩)
  go_ret3
  refine ⟨ret_of ?_,hb1⟩
  show Value.tuple #[.int .i64 (bits .xor .i64 0 (wrap64 (-wrap64 (bits .and .u64 0 1)))),_,_] = _
  rw [show bits .xor .i64 0 (wrap64 (-wrap64 (bits .and .u64 0 1))) = 0 by decide +kernel]
  rfl
 | some x =>
  obtain ⟨n,k⟩:=x
  have hv:readV s.data.toList = some (unzig n,k):=by simp [readV,hr]
  rw [hv]
  have hl:=readU_lt hr
  go_enter Tryz.func81,Tryz.ntmps81
  go_wp2_with (go_at_call 37;refine (readUvarint_some s ev _ hs hev hr).mono ?_;rintro e w1 ⟨rfl,hb1⟩)
  go_ret3
  refine ⟨ret_of ?_,hb1⟩
  show Value.tuple #[.int .i64 (bits .xor .i64 ((n:Int) / 2) (wrap64 (-wrap64 (bits .and .u64 (n:Int) 1)))),_,_] = _
  rw [unzig_xor n hl.1]
  rfl
end Go.Proofs.YtapiabmmfmfaeaaGreatDoor
/- The walks of wire.Text, wire.ReadText. -/
namespace Go.Proofs.YtapiabmmfmfaeaaGreatDoor
set_option maxHeartbeats 1000000
open Go Go.RowKit
set_option maxRecDepth 100000 in
theorem text_any (s:ByteArray) (w:World) (hs:s.size ≤ 1048576) :
  Calls Tryz.prog 70 #[.string s] w fun e w'=>e = .returned (.string ⟨(textOf s.data.toList).toArray⟩) ∧ Below w.heap.size w w':=by
 have hlen:=seven_len (n:=s.size) (by omega)
 go_enter Tryz.func70,Tryz.ntmps70
 go_wp2_with (go_at_call 72;refine (uvarint_any _ _ (by omega) (by omega)).mono ?_;rintro e w1 ⟨rfl,hb1⟩)
 go_ret
 refine ⟨ret_of ?_,hb1⟩
 show Value.string (_ ++ s) = _
 unfold textOf
 rw [← ByteArray.mk_append_mk]
 simp
def tRet (ev:Value):Option (List UInt8 × Nat) → Value
 | some (t,k)=>.tuple #[.string ⟨t.toArray⟩,.int .i64 (k:Int),.nilIface]
 | none=>.tuple #[.string ⟨#[]⟩,.int .i64 0,ev]
set_option maxRecDepth 100000 in
theorem readText_any (s:ByteArray) (T:TypeId) (x:Value) (w:World) (hs:s.size ≤ maxLen) (hev:w.cell? ⟨1,0,none⟩ = some (.iface T x)) :
  Calls Tryz.prog 19 #[.string s] w fun e w'=>e = .returned (tRet (.iface T x) (readT s.data.toList)) ∧ Below w.heap.size w w':=by
 have hlen:s.data.toList.length = s.size:=by simp
 have hsz:(1:Nat) < w.heap.size:=block_lt_of_cell hev
 cases hr:readU s.data.toList with
 | none =>
  have hv:readT s.data.toList = none:=by simp [readT,hr]
  rw [hv]
  have Hev:=Lib.hid hev
  go_enter Tryz.func19,Tryz.ntmps19
  go_wp2_with (go_at_call 37;refine (readUvarint_none s _ _ hs hev hr).mono ?_;rintro e w1 ⟨rfl,hb1⟩)
  go_ret3
  exact ⟨rfl,hb1⟩
 | some y =>
  obtain ⟨n,k⟩:=y
  have hl:=readU_lt hr
  by_cases hok:n ≤ 200000 ∧ k + n ≤ s.data.toList.length
  ·have hv:readT s.data.toList = some ((s.data.toList.drop k).take n,k + n):=by simp only [readT,hr];rw [if_pos hok]
   rw [hv]
   obtain ⟨ok1,ok2⟩:=hok
   go_enter Tryz.func19,Tryz.ntmps19
   go_wp2_with (go_at_call 37;refine (readUvarint_some s _ _ hs hev hr).mono ?_;rintro e w1 ⟨rfl,hb1⟩)
   go_ret3
   refine ⟨ret_of ?_,hb1⟩
   show Value.tuple #[.string (s.extract k (k + n)),.int .i64 ((k:Int) + (n:Int)),.nilIface] = _
   rw [ba_extract,Nat.add_sub_cancel_left]
   rfl
  ·have hv:readT s.data.toList = none:=by simp only [readT,hr];rw [if_neg hok]
   rw [hv]
   by_cases h1:n ≤ 200000
   ·have h2:s.size < k + n:=by omega
    clear hok hv
    go_enter Tryz.func19,Tryz.ntmps19
    go_wp2_with (go_at_call 37;refine (readUvarint_some s _ _ hs hev hr).mono ?_;rintro e w1 ⟨rfl,hb1⟩;have hev1:=((bcell hb1).1 1 0 hsz).trans hev)
    go_quiet (fail)
    go_wp2
    go_ret3
    exact ⟨rfl,below_drewN hb1 _⟩
   ·have b1:decide (200000 < (n:Int)) = true:=by simp;omega
    clear hok hv
    go_enter Tryz.func19,Tryz.ntmps19
    go_wp2_with (go_at_call 37;refine (readUvarint_some s _ _ hs hev hr).mono ?_;rintro e w1 ⟨rfl,hb1⟩;have hev1:=((bcell hb1).1 1 0 hsz).trans hev)
    go_quiet (fail)
    go_wp2
    go_ret3
    exact ⟨rfl,below_drewN hb1 _⟩
theorem readText_some (s:ByteArray) (T:TypeId) (x:Value) (w:World) (hs:s.size ≤ maxLen) (hev:w.cell? ⟨1,0,none⟩ = some (.iface T x)) {t:List UInt8} {k:Nat} (h:readT s.data.toList = some (t,k)) :
  Calls Tryz.prog 19 #[.string s] w fun e w'=>e = .returned (.tuple #[.string ⟨t.toArray⟩,.int .i64 (k:Int),.nilIface]) ∧ Below w.heap.size w w' :=
 (readText_any s T x w hs hev).mono fun _ _ ⟨h1,h2⟩=>⟨by rw [h1,h];rfl,h2⟩
theorem readText_none (s:ByteArray) (T:TypeId) (x:Value) (w:World) (hs:s.size ≤ maxLen) (hev:w.cell? ⟨1,0,none⟩ = some (.iface T x)) (h:readT s.data.toList = none) :
  Calls Tryz.prog 19 #[.string s] w fun e w'=>e = .returned (.tuple #[.string ⟨#[]⟩,.int .i64 0,.iface T x]) ∧ Below w.heap.size w w' :=
 (readText_any s T x w hs hev).mono fun _ _ ⟨h1,h2⟩=>⟨by rw [h1,h];rfl,h2⟩
theorem readVarint_some (s:ByteArray) (ev:Value) (w:World) (hs:s.size ≤ maxLen) (hev:w.cell? ⟨1,0,none⟩ = some ev) {n:Int} {k:Nat} (h:readV s.data.toList = some (n,k)) :
  Calls Tryz.prog 81 #[.string s] w fun e w'=>e = .returned (.tuple #[.int .i64 n,.int .i64 (k:Int),.nilIface]) ∧ Below w.heap.size w w' :=
 (readVarint_any s ev w hs hev).mono fun _ _ ⟨h1,h2⟩=>⟨by rw [h1,h];rfl,h2⟩
theorem readVarint_none (s:ByteArray) (ev:Value) (w:World) (hs:s.size ≤ maxLen) (hev:w.cell? ⟨1,0,none⟩ = some ev) (h:readV s.data.toList = none) :
  Calls Tryz.prog 81 #[.string s] w fun e w'=>e = .returned (.tuple #[.int .i64 0,.int .i64 0,ev]) ∧ Below w.heap.size w w' :=
 (readVarint_any s ev w hs hev).mono fun _ _ ⟨h1,h2⟩=>⟨by rw [h1,h];rfl,h2⟩
end Go.Proofs.YtapiabmmfmfaeaaGreatDoor
/- The walks of the document's ReadSeven, ReadSigned, ReadLong. -/
namespace Go.Proofs.YtapiabmmfmfaeaaGreatDoor
set_option maxHeartbeats 1000000
open Go Go.RowKit
def sRet:Option (Nat × Nat) → Value
 | some (n,k)=>.tuple #[.int .u64 (n:Int),.int .i64 (k:Int)]
 | none=>.tuple #[.int .u64 0,.int .i64 0]
theorem add_acc (acc m k:Nat) (hk:k ≤ 9) (h9:k = 9 → m ≤ 1) (ha:acc < 128 ^ k) :
  IntKind.u64.wrap ((acc:Int) + IntKind.u64.wrap ((m:Int) % 128 * 2 ^ (7 * k))) = ((acc + m % 128 * 128 ^ k:Nat):Int):=by
 have e:(2:Nat) ^ (7 * k) = 128 ^ k:=by rw [Nat.pow_mul]
 have hb:acc + m % 128 * 128 ^ k < 18446744073709551616:=by
  by_cases h:k = 9
  ·subst h
   have:=h9 rfl
   have h2:m % 128 * 128 ^ 9 ≤ 1 * 128 ^ 9:=Nat.mul_le_mul_right _ (by omega)
   omega
  ·have h1:(128:Nat) ^ k ≤ 128 ^ 8:=Nat.pow_le_pow_right (by decide) (by omega)
   have h2:m % 128 * 128 ^ k ≤ 127 * 128 ^ 8:=Nat.mul_le_mul (by omega) h1
   omega
 rw [IntKind.wrap_u64,IntKind.wrap_u64,show ((m:Int) % 128 * 2 ^ (7 * k)) = ((m % 128 * 2 ^ (7 * k):Nat):Int) by simp,e]
 generalize m % 128 * 128 ^ k = x at *
 omega
set_option maxRecDepth 100000 in
theorem readSeven_any (s:ByteArray) (w:World) (hs:s.size ≤ maxLen) :
  Calls Tryz.prog 52 #[.string s] w fun e w'=>e = .returned (sRet (readU s.data.toList)) ∧ w' = w:=by
 unfold maxLen at hs
 go_enter Tryz.func52,Tryz.ntmps52
 go_wp2
 go_loop [4,5,6] (fun n i _=>∃ k acc:Nat,k ≤ s.size ∧ k ≤ 10 ∧ i = .int .i64 k ∧ n = .int .u64 acc ∧ acc < 128 ^ k ∧ rdU k (s.data.toList.drop k) acc = readU s.data.toList) (fun _ i _=>10 - (intOf i).toNat)
 case atStart=>exact ⟨0,0,by omega,by omega,rfl,rfl,by decide,rfl⟩
 case round =>
  obtain ⟨k,acc,hk,hk10,rfl,rfl,hacc,hrd⟩:=hrel
  by_cases hlt:k < s.size
  ·by_cases h10:k < 10
   ·rw [drop_cons s k hlt,rdU] at hrd
    have hb:=s[k].toNat_lt
    obtain ⟨m,hm⟩:∃ m,s[k].toNat = m:=⟨_,rfl⟩
    rw [hm] at hrd hb
    by_cases hb9:k = 9 ∧ 1 < m
    ·rw [if_pos (.inr (.inl hb9))] at hrd
     have Hrd:=Lib.hid hrd;clear hrd
     obtain ⟨h9,h1⟩:=hb9
     have b9:((k:Int) == 9) = true:=by simp;omega
     have b1:decide (1 < (m:Int)) = true:=by simp;omega
     clear h9 h1
     go_wp2
     go_ret2
     exact ⟨by rw [← Hrd.out];rfl,rfl⟩
    ·have n1:k = 9 → m ≤ 1:=by omega
     have hor:=add_acc acc m k (by omega) n1 hacc
     have hacc':acc + m % 128 * 128 ^ k < 128 ^ (k + 1):=by
      have h3:m % 128 * 128 ^ k ≤ 127 * 128 ^ k:=Nat.mul_le_mul_right _ (by omega)
      rw [Nat.pow_succ];omega
     have Hor:=Lib.hid hor;have Hacc':=Lib.hid hacc';clear hor hacc hacc'
     have b9:((k:Int) == 9 && decide (1 < (m:Int))) = false:=by
      rw [Bool.and_eq_false_iff];simp;omega
     by_cases h9:k = 9
     ·have b91:((k:Int) == 9) = true:=by simp;omega
      have b1:decide (1 < (m:Int)) = false:=by simp;have:=n1 h9;omega
      clear b9 hb9
      by_cases h0:m = 0
      ·have bm:((m:Int) == 0) = true:=by simp;omega
       have b0:decide (0 < k) = true:=by simp;omega
       rw [if_pos (.inr (.inr (by omega)))] at hrd
       have h128:m < 128:=by omega
       have Hrd:=Lib.hid hrd;clear hrd n1 h9 h0
       go_wp2
       go_ret2
       exact ⟨by rw [← Hrd.out];rfl,rfl⟩
      ·have bm:((m:Int) == 0) = false:=by simp;omega
       have h128:m < 128:=by have:=n1 h9;omega
       rw [if_neg (by omega),if_pos h128] at hrd
       have Hrd:=Lib.hid hrd;clear hrd n1 h9 h0
       go_wp2
       go_ret2
       refine ⟨ret_of ?_,rfl⟩
       rw [← Hrd.out]
       show Value.tuple #[.int .u64 (IntKind.u64.wrap _),_] = _
       rw [Hor.out,Nat.mod_eq_of_lt h128]
       rfl
     ·have b91:((k:Int) == 9) = false:=by simp;omega
      clear b9 hb9
      by_cases h0:m = 0 ∧ 0 < k
      ·have bm:((m:Int) == 0) = true:=by simp;omega
       have b0:decide (0 < k) = true:=by simp;omega
       rw [if_pos (.inr (.inr h0))] at hrd
       have h128:m < 128:=by omega
       have Hrd:=Lib.hid hrd;clear hrd n1 h9 h0
       go_wp2
       go_ret2
       exact ⟨by rw [← Hrd.out];rfl,rfl⟩
      ·by_cases h128:m < 128
       ·rw [if_neg (by omega),if_pos h128] at hrd
        have Hrd:=Lib.hid hrd;clear hrd n1 h9
        by_cases hm0:m = 0
        ·have bm:((m:Int) == 0) = true:=by simp;omega
         have b0:decide (0 < k) = false:=by simp;omega
         clear h0 hm0
         go_wp2
         go_ret2
         refine ⟨ret_of ?_,rfl⟩
         rw [← Hrd.out]
         show Value.tuple #[.int .u64 (IntKind.u64.wrap _),_] = _
         rw [Hor.out,Nat.mod_eq_of_lt h128]
         rfl
        ·have bm:((m:Int) == 0) = false:=by simp;omega
         clear h0 hm0
         go_wp2
         go_ret2
         refine ⟨ret_of ?_,rfl⟩
         rw [← Hrd.out]
         show Value.tuple #[.int .u64 (IntKind.u64.wrap _),_] = _
         rw [Hor.out,Nat.mod_eq_of_lt h128]
         rfl
       ·rw [if_neg (by omega),if_neg h128] at hrd
        have Hrd:=Lib.hid hrd;clear hrd n1 h9 h0
        go_wp2
        go_round
        case rel=>exact ⟨k + 1,acc + m % 128 * 128 ^ k,by omega,by omega,by go_num,by rw [Hor.out],Hacc'.out,Hrd.out⟩
        case measure=>simp [intOf];omega
   ·obtain rfl:k = 10:=by omega
    have hnone:readU s.data.toList = none:=by
     rw [← hrd,drop_cons s 10 hlt,rdU,if_pos (.inl (Nat.le_refl _))]
    have Hrd:=Lib.hid hnone;clear hrd hnone hacc
    go_wp2
    go_ret2
    exact ⟨by rw [Hrd.out];rfl,rfl⟩
  ·have hnone:readU s.data.toList = none:=by
    rw [← hrd,List.drop_of_length_le (by simp;omega),rdU]
   have Hrd:=Lib.hid hnone;clear hrd hnone
   go_wp2
   go_ret2
   exact ⟨by rw [Hrd.out];rfl,rfl⟩
theorem readSeven_some (s:ByteArray) (w:World) (hs:s.size ≤ maxLen) {n k:Nat} (h:readU s.data.toList = some (n,k)) :
  Calls Tryz.prog 52 #[.string s] w fun e w'=>e = .returned (.tuple #[.int .u64 (n:Int),.int .i64 (k:Int)]) ∧ w' = w :=
 (readSeven_any s w hs).mono fun _ _ ⟨h1,h2⟩=>⟨by rw [h1,h];rfl,h2⟩
theorem readSeven_none (s:ByteArray) (w:World) (hs:s.size ≤ maxLen) (h:readU s.data.toList = none) :
  Calls Tryz.prog 52 #[.string s] w fun e w'=>e = .returned (.tuple #[.int .u64 0,.int .i64 0]) ∧ w' = w :=
 (readSeven_any s w hs).mono fun _ _ ⟨h1,h2⟩=>⟨by rw [h1,h];rfl,h2⟩
set_option maxRecDepth 100000 in
theorem readSigned_some (s:ByteArray) (w:World) (hs:s.size ≤ maxLen) {n:Int} {k:Nat} (h:readV s.data.toList = some (n,k)) :
  Calls Tryz.prog 88 #[.string s] w fun e w'=>e = .returned (.tuple #[.int .i64 n,.int .i64 (k:Int)]) ∧ w' = w:=by
 cases hr:readU s.data.toList with
 | none=>simp [readV,hr] at h
 | some x =>
  obtain ⟨u,k'⟩:=x
  obtain ⟨rfl,rfl⟩:unzig u = n ∧ k' = k:=by simpa [readV,hr] using h
  have hl:=readU_lt hr
  have hl1:(u:Int) < 18446744073709551616:=by omega
  have hu:=hl.1
  clear hl h
  by_cases hodd:u % 2 = 1
  ·have hz:unzig u = -((u:Int) / 2) - 1:=by unfold unzig;rw [if_pos hodd];omega
   have b1:(((u:Int) % 2) == 1) = true:=by simp;omega
   have Hz:=Lib.hid hz;clear hz hodd hl1
   go_enter Tryz.func88,Tryz.ntmps88
   go_wp2_with fail
   refine (readSeven_some s _ hs hr).mono ?_;rintro e w1 ⟨rfl,rfl⟩
   go_wp2_with fail
   go_ret2
   exact ⟨by rw [Hz.out];rfl,rfl⟩
  ·have hz:unzig u = (u:Int) / 2:=by unfold unzig;rw [if_neg hodd];omega
   have b1:(((u:Int) % 2) == 1) = false:=by simp;omega
   have Hz:=Lib.hid hz;clear hz hodd hl1
   go_enter Tryz.func88,Tryz.ntmps88
   go_wp2_with fail
   refine (readSeven_some s _ hs hr).mono ?_;rintro e w1 ⟨rfl,rfl⟩
   go_wp2_with fail
   go_ret2
   exact ⟨by rw [Hz.out];rfl,rfl⟩
theorem readSigned_none (s:ByteArray) (w:World) (hs:s.size ≤ maxLen) (h:readV s.data.toList = none) :
  Calls Tryz.prog 88 #[.string s] w fun e w'=>e = .returned (.tuple #[.int .i64 0,.int .i64 0]) ∧ w' = w:=by
 have hr:readU s.data.toList = none:=by simpa [readV] using h
 go_enter Tryz.func88,Tryz.ntmps88
 go_wp2_with fail
 refine (readSeven_none s _ hs hr).mono ?_;rintro e w1 ⟨rfl,rfl⟩
 go_wp2_with fail
 go_ret2
 exact ⟨rfl,rfl⟩
end Go.Proofs.YtapiabmmfmfaeaaGreatDoor
/- The walks of the document's Long, ReadLong. -/
namespace Go.Proofs.YtapiabmmfmfaeaaGreatDoor
set_option maxHeartbeats 1000000
open Go Go.RowKit
set_option maxRecDepth 100000 in
theorem long_any (s:ByteArray) (w:World) (hs:s.size ≤ 1048576) :
  Calls Tryz.prog 115 #[.string s] w fun e w'=>e = .returned (.string ⟨(textOf s.data.toList).toArray⟩) ∧ Below w.heap.size w w':=by
 have hlen:=seven_len (n:=s.size) (by omega)
 go_enter Tryz.func115,Tryz.ntmps115
 go_wp2_with (go_at_call 119;refine (sevenOf_any _ _ (by omega) (by omega)).mono ?_;rintro e w1 ⟨rfl,hb1⟩)
 go_ret
 refine ⟨ret_of ?_,hb1⟩
 show Value.string (_ ++ s) = _
 unfold textOf
 rw [← ByteArray.mk_append_mk]
 simp
theorem readT_cases {s:List UInt8} {t:List UInt8} {k:Nat} (h:readT s = some (t,k)):∃ n u,readU s = some (n,u) ∧ n ≤ 200000 ∧ u + n ≤ s.length ∧ t = (s.drop u).take n ∧ k = u + n:=by
 unfold readT at h
 cases hr:readU s with
 | none=>simp [hr] at h
 | some x =>
  obtain ⟨n,u⟩:=x
  rw [hr] at h
  simp only at h
  split at h
  ·rename_i hc
   simp only [Option.some.injEq,Prod.mk.injEq] at h
   exact ⟨n,u,rfl,hc.1,hc.2,h.1.symm,h.2.symm⟩
  ·cases h
theorem readT_none {s:List UInt8} (h:readT s = none):readU s = none ∨ ∃ n u,readU s = some (n,u) ∧ (200000 < n ∨ s.length < u + n):=by
 unfold readT at h
 cases hr:readU s with
 | none=>exact .inl rfl
 | some x =>
  obtain ⟨n,u⟩:=x
  rw [hr] at h
  simp only at h
  split at h
  ·cases h
  ·exact .inr ⟨n,u,rfl,by omega⟩
set_option maxRecDepth 100000 in
theorem readLong_some (s:ByteArray) (w:World) (hs:s.size ≤ maxLen) {t:List UInt8} {k:Nat} (h:readT s.data.toList = some (t,k)) :
  Calls Tryz.prog 28 #[.string s] w fun e w'=>e = .returned (.tuple #[.string ⟨t.toArray⟩,.int .i64 (k:Int)]) ∧ w' = w:=by
 obtain ⟨n,u,hr,h1,h2,rfl,rfl⟩:=readT_cases h
 have hl:=readU_lt hr
 have hlen:s.data.toList.length = s.size:=by simp
 have b0:((u:Int) == 0) = false:=by simp;omega
 have hm:s.size ≤ maxLen:=hs
 unfold maxLen at hs
 go_enter Tryz.func28,Tryz.ntmps28
 go_wp2_with fail
 refine (readSeven_some s _ hm hr).mono ?_;rintro e w1 ⟨rfl,rfl⟩
 go_wp2_with fail
 go_ret2
 refine ⟨ret_of ?_,rfl⟩
 show Value.tuple #[.string (s.extract u (u + n)),.int .i64 ((u:Int) + (n:Int))] = _
 rw [ba_extract,Nat.add_sub_cancel_left]
 rfl
set_option maxRecDepth 100000 in
theorem readLong_none (s:ByteArray) (w:World) (hs:s.size ≤ maxLen) (h:readT s.data.toList = none) :
  Calls Tryz.prog 28 #[.string s] w fun e w'=>e = .returned (.tuple #[.string ⟨#[]⟩,.int .i64 0]) ∧ w' = w:=by
 have hlen:s.data.toList.length = s.size:=by simp
 have hm:s.size ≤ maxLen:=hs
 unfold maxLen at hs
 rcases readT_none h with hr | ⟨n,u,hr,h1⟩
 ·clear h
  go_enter Tryz.func28,Tryz.ntmps28
  go_wp2_with fail
  refine (readSeven_none s _ hm hr).mono ?_;rintro e w1 ⟨rfl,rfl⟩
  go_wp2_with fail
  go_ret2
  exact ⟨rfl,rfl⟩
 ·have hl:=readU_lt hr
  have b0:((u:Int) == 0) = false:=by simp;omega
  clear h
  by_cases hn:200000 < n
  ·have b1:decide (200000 < (n:Int)) = true:=by simp;omega
   clear h1 hn
   go_enter Tryz.func28,Tryz.ntmps28
   go_wp2_with fail
   refine (readSeven_some s _ hm hr).mono ?_;rintro e w1 ⟨rfl,rfl⟩
   go_wp2_with fail
   go_ret2
   exact ⟨rfl,rfl⟩
  ·have b1:decide (200000 < (n:Int)) = false:=by simp;omega
   have h2:s.size < u + n:=by omega
   have h3:n ≤ 200000:=by omega
   clear h1 hn
   go_enter Tryz.func28,Tryz.ntmps28
   go_wp2_with fail
   refine (readSeven_some s _ hm hr).mono ?_;rintro e w1 ⟨rfl,rfl⟩
   go_wp2_with fail
   go_ret2
   exact ⟨rfl,rfl⟩
end Go.Proofs.YtapiabmmfmfaeaaGreatDoor
/- The walks of wire.Fixed, wire.ReadFixed, and the document's Little, ReadLittle. -/
namespace Go.Proofs.YtapiabmmfmfaeaaGreatDoor
set_option maxHeartbeats 1000000
open Go Go.RowKit
theorem set_fill (k size n:Nat) (u:Value) (hk:k < size) (hu:u = byteV (UInt8.ofNat (n / 256 ^ k % 256))) :
  ((little k n).map byteV ++ List.replicate (size - k) (Value.int .u8 0)).set k u = (little (k + 1) n).map byteV ++ List.replicate (size - (k + 1)) (Value.int .u8 0):=by
 subst hu
 obtain ⟨r,hr⟩:∃ r,size - k = r + 1:=⟨size - k - 1,by omega⟩
 rw [little_snoc,List.map_append,hr,show size - (k + 1) = r by omega,List.replicate_succ]
 have hl:((little k n).map byteV).length = k:=by simp [little_len]
 conv=>lhs;arg 2;rw [← hl]
 simp
set_option maxRecDepth 100000 in
theorem fixed_ok (n size:Nat) (w:World) (_hn:n < 18446744073709551616) (h1:1 ≤ size) (h8:size ≤ 8) (hf:n < 256 ^ size) :
  Calls Tryz.prog 71 #[.int .u64 (n:Int),.int .i64 (size:Int)] w fun e w'=>e = .returned (.tuple #[.string ⟨(little size n).toArray⟩,.nilIface]) ∧ Below w.heap.size w w':=by
 obtain ⟨i0,hi,hz0,hz1,hz2⟩:=info_parts info_u8
 have d1:decide ((size:Int) < 1) = false:=by simp;omega
 have d2:decide ((8:Int) < (size:Int)) = false:=by simp;omega
 have d0:(n:Int) / 2 ^ (8 * size) = 0:=by
  rw [show ((n:Int) / 2 ^ (8 * size)) = ((n / 2 ^ (8 * size):Nat):Int) by simp,pow256,Nat.div_eq_of_lt hf];rfl
 have hm:size ≤ maxLen:=by unfold maxLen;omega
 have Hf:=Lib.hid hf;clear hf
 go_enter Tryz.func71,Tryz.ntmps71
 go_wp2_with (at_make;refine wpList_make_full _ rfl _ _ 129 rfl w.heap.size 5 i0 (.int .u8 0) 1 Tryz.underlying129 hi hz0 hz1 _ _ _ _ size rfl rfl rfl rfl (by rw [hz2];omega) hm (Nat.le_refl _) ?_;intro w1 hown hgrow;have Ho:=Lib.hid hown;have hb:=(Below.refl w.heap.size w).grown hgrow (Nat.le_refl _) (by intro k hk;cases hk);clear hown hgrow)
 all_goals
  clear hi hz0 hz1 hz2 d0
  go_loopw [30] (fun i wr=>∃ k:Nat,k ≤ size ∧ i = .int .i64 k ∧ wr.ownsRow w.heap.size 5 1 (.slice (some ⟨w.heap.size,0,none⟩) size size) size ((little k n).map byteV ++ List.replicate (size - k) (Value.int .u8 0)) ∧ Below w.heap.size w wr) (fun i _=>size - (intOf i).toNat)
  case atStart =>
   refine ⟨0,by omega,rfl,?_,hb⟩
   have:=Ho.out
   rw [show (Value.int .u8 0).cells = #[Value.int .u8 0] from rfl,toList_madeCells_one,Nat.mul_one] at this
   simpa [little] using this
  case round =>
   obtain ⟨k,hk,rfl,hown,hb2⟩:=hrel
   clear hb Ho
   by_cases hlt:k < size
   ·have hcell:=hown.cellAt k (by omega)
    have hlen:k < ((little k n).map byteV ++ List.replicate (size - k) (Value.int .u8 0)).length:=by simp [little_len];omega
    rw [List.getElem?_eq_getElem hlen] at hcell
    have hfroz:=hown.frozenAt k
    have Hown:=Lib.hid hown;clear hown
    generalize ((little k n).map byteV ++ List.replicate (size - k) (Value.int .u8 0))[k] = oldv at hcell
    clear hlen
    go_wp2
    go_roundw
    case rel =>
     refine ⟨k + 1,by omega,by go_num,?_,hb2.setCell (Nat.le_refl _) _⟩
     have hst:=(Hown.out.stored k (Value.int .u8 ((n:Int) / 2 ^ (8 * k) % 256))).1
     rw [set_fill k size n _ hlt] at hst
     ·exact hst
     ·rw [show ((n:Int) / 2 ^ (8 * k) % 256) = ((n / 2 ^ (8 * k) % 256:Nat):Int) by simp,pow256]
      exact byteV_ofNat rfl (by omega)
    case measure=>simp [intOf];omega
   ·obtain rfl:k = size:=by omega
    have hs:wr.ownsRow w.heap.size 5 1 (.slice (some ⟨w.heap.size,0,none⟩) k k) (little k n).length ((little k n).map byteV):=by
     rw [little_len];simpa using hown
    have hstr:=run_own_string (src:=129) (dst:=9) Tryz.underlying129 Tryz.underlying5 Tryz.underlying9 hs
    clear hs hown
    go_wp2
    go_ret2
    exact ⟨rfl,hb2⟩
theorem or_256 (acc c k:Nat) (hk:k < 8) (hc:c < 256) (ha:acc < 256 ^ k) :
  bits .or .u64 (acc:Int) (IntKind.u64.wrap ((c:Int) * 2 ^ (8 * k))) = ((acc + c * 256 ^ k:Nat):Int):=by
 have h1:(256:Nat) ^ k ≤ 256 ^ 7:=Nat.pow_le_pow_right (by decide) (by omega)
 have h2:c * 256 ^ k ≤ 255 * 256 ^ 7:=Nat.mul_le_mul (by omega) h1
 rw [IntKind.wrap_u64,show ((c:Int) * 2 ^ (8 * k)) = ((c * 2 ^ (8 * k):Nat):Int) by simp]
 rw [← pow256] at ha h1 h2 ⊢
 rw [show (((c * 2 ^ (8 * k):Nat):Int) % 18446744073709551616) = ((c * 2 ^ (8 * k):Nat):Int) by
  generalize c * 2 ^ (8 * k) = x at *
  omega,u64_or_nat _ _ (by omega) (by omega)]
 congr 1
 rw [Nat.or_comm,Nat.add_comm]
 exact nat_join (8 * k) _ _ (Nat.mul_mod_left _ _) ha
theorem take_snoc' (s:ByteArray) (k:Nat) (h:k < s.size):s.data.toList.take (k + 1) = s.data.toList.take k ++ [s[k]]:=by
 rw [List.take_succ_eq_append_getElem (by simpa using h)];rfl
set_option maxRecDepth 100000 in
theorem readFixed_ok (s:ByteArray) (size:Nat) (w:World) (h1:1 ≤ size) (h8:size ≤ 8) (hs:size ≤ s.size) (hm:s.size ≤ maxLen) :
  Calls Tryz.prog 38 #[.string s,.int .i64 (size:Int)] w fun e w'=>e = .returned (.tuple #[.int .u64 (unlittle (s.data.toList.take size):Nat),.nilIface]) ∧ w' = w:=by
 have d1:decide ((size:Int) < 1) = false:=by simp;omega
 have d2:decide ((8:Int) < (size:Int)) = false:=by simp;omega
 have d3:decide ((s.size:Int) < (size:Int)) = false:=by simp;omega
 unfold maxLen at hm
 go_enter Tryz.func38,Tryz.ntmps38
 go_wp2
 go_loop [6,21] (fun n i=>∃ k:Nat,k ≤ size ∧ i = .int .i64 k ∧ n = .int .u64 (unlittle (s.data.toList.take k):Nat)) (fun _ i=>size - (intOf i).toNat)
 case atStart=>exact ⟨0,by omega,rfl,rfl⟩
 case round =>
  obtain ⟨k,hk,rfl,rfl⟩:=hrel
  by_cases hlt:k < size
  ·have hks:k < s.size:=by omega
   have hlen:(s.data.toList.take k).length = k:=by simp;omega
   have hac:=unlittle_lt (s.data.toList.take k)
   rw [hlen] at hac
   have hb:=s[k].toNat_lt
   obtain ⟨m,hmm⟩:∃ m,s[k].toNat = m:=⟨_,rfl⟩
   have hnx:unlittle (s.data.toList.take (k + 1)) = unlittle (s.data.toList.take k) + m * 256 ^ k:=by
    rw [take_snoc' s k hks,unlittle_snoc,hlen,hmm]
   rw [hmm] at hb
   have hor:=or_256 _ m k (by omega) hb hac
   have Hor:=Lib.hid hor;have Hnx:=Lib.hid hnx;clear hor hnx hlen hac
   generalize unlittle (s.data.toList.take k) = acc at *
   go_wp2
   go_round
   case rel=>exact ⟨k + 1,by omega,by go_num,by rw [Hor.out,Hnx.out]⟩
   case measure=>simp [intOf];omega
  ·obtain rfl:k = size:=by omega
   go_wp2
   go_ret2
   exact ⟨rfl,rfl⟩
set_option maxRecDepth 100000 in
theorem readLittle_any (s:ByteArray) (size:Nat) (w:World) (h8:size ≤ 8) (hs:size ≤ s.size) (hm:s.size ≤ maxLen) :
  Calls Tryz.prog 53 #[.string s,.int .i64 (size:Int)] w fun e w'=>e = .returned (.int .u64 (unlittle (s.data.toList.take size):Nat)) ∧ w' = w:=by
 unfold maxLen at hm
 go_enter Tryz.func53,Tryz.ntmps53
 go_wp2
 go_loop [5,6] (fun n i=>∃ k:Nat,k ≤ size ∧ i = .int .i64 ((k:Int) - 1) ∧ n = .int .u64 (unlittle ((s.data.toList.take size).drop k):Nat)) (fun _ i=>(intOf i + 1).toNat)
 case atStart=>exact ⟨size,by omega,rfl,by simp [unlittle]⟩
 case round =>
  obtain ⟨k,hk,rfl,rfl⟩:=hrel
  by_cases h0:0 < k
  ·obtain ⟨j,rfl⟩:∃ j,k = j + 1:=⟨k - 1,by omega⟩
   rw [show (((j + 1:Nat):Int) - 1) = (j:Int) by omega]
   have hjs:j < s.size:=by omega
   have hlen:j < (s.data.toList.take size).length:=by simp;omega
   have hb:=s[j].toNat_lt
   have hnx:unlittle ((s.data.toList.take size).drop j) = s[j].toNat + 256 * unlittle ((s.data.toList.take size).drop (j + 1)):=by
    rw [List.drop_eq_getElem_cons hlen,unlittle]
    congr 2
    simp
    rfl
   have hac:=unlittle_lt ((s.data.toList.take size).drop j)
   have hpw:(256:Nat) ^ ((s.data.toList.take size).drop j).length ≤ 256 ^ 8:=Nat.pow_le_pow_right (by decide) (by simp;omega)
   rw [hnx] at hac
   have hac2:s[j].toNat + 256 * unlittle ((s.data.toList.take size).drop (j + 1)) < 18446744073709551616:=by omega
   have Hnx:=Lib.hid hnx;clear hnx hac hpw hlen
   obtain ⟨m,hmm⟩:∃ m,s[j].toNat = m:=⟨_,rfl⟩
   rw [hmm] at hac2 hb
   generalize unlittle ((s.data.toList.take size).drop (j + 1)) = acc at *
   go_wp2
   go_round
   case rel=>exact ⟨j,by omega,rfl,by rw [Hnx.out,hmm,show ((m + 256 * acc:Nat):Int) = (acc:Int) * 256 + (m:Int) by omega]⟩
   case measure=>simp [intOf]
  ·obtain rfl:k = 0:=by omega
   go_wp2
   go_ret
   exact ⟨rfl,rfl⟩
end Go.Proofs.YtapiabmmfmfaeaaGreatDoor
