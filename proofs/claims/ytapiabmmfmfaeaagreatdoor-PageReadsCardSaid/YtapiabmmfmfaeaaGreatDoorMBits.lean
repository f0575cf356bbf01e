/- Merged texts: BitsW1, BitsW2, BitsL1, BitsW3, BitsW4, BitsW5, BitsW6, BitsW7, Bits64. -/
import Derived.Test.YtapiabmmfmfaeaaGreatDoorMWire
import Derived.Test.YtapiabmmfmfaeaaGreatDoorMPlain
import Derived.StillTailTactics
import Derived.Lib.Builder
import Derived.Test.YtapiabmmfmfaeaaGreatDoorMErr
import Derived.Test.YtapiabmmfmfaeaaGreatDoorShelf
import Derived.Test.YtapiabmmfmfaeaaGreatDoorRows
/- The walks of bitrun's Put, Text, pack. -/
namespace Go.Proofs.YtapiabmmfmfaeaaGreatDoor
set_option maxHeartbeats 2000000
open Go Go.RowKit
def BitsAt (B b m V:Nat) (w:World):Prop :=
 B ≤ b ∧ ∃ v,w.heap[b]? = some (.cells #[v,.int .i64 (m:Nat)] 187 (0,0)) ∧ w.ownsRow B 5 1 v (bytesOf m V).length ((bytesOf m V).map byteV)
set_option maxRecDepth 100000 in
theorem text_bits (B b m V:Nat) (w:World) (h:BitsAt B b m V w) :
  Calls Tryz.prog 113 #[.pointer (some ⟨b,0,none⟩)] w fun e w'=>e = .returned (.string ⟨(bytesOf m V).toArray⟩) ∧ w' = w:=by
 obtain ⟨hB,v,hbk,hown⟩:=h
 have c0:w.cell? ⟨b,0,none⟩ = some v:=by rw [Lib.cell_of_heap hbk];rfl
 have hr:=run_own_string (P:=Tryz.prog) (src:=129) (dst:=9) Tryz.underlying129 Tryz.underlying5 Tryz.underlying9 hown
 go_enter Tryz.func113,Tryz.ntmps113
 go_wp2
 go_ret
 exact ⟨rfl,rfl⟩
theorem info_u8b:(Tryz.prog.info? 5).map (fun i=>(i.zero,i.size,i.bytes)) = some (some (.int .u8 0),1,1):=by kernel_rfl
theorem BitsAt.lt {B b m V:Nat} {w:World} (h:BitsAt B b m V w):b < w.heap.size:=by
 obtain ⟨_,v,hb,_⟩:=h
 exact (Array.getElem?_eq_some_iff.1 hb).1
theorem wrap_small (n:Int) (h0:0 ≤ n) (h1:n < 9223372036854775808):IntKind.i64.wrap n = n:=by rw [IntKind.wrap_i64];omega
theorem own_some {w:World} {B n:Nat} {e:TypeId} {v:Value} {xs:List Value} (h:w.ownsRow B e 1 v (n + 1) xs):∃ g cap,v = .slice (some ⟨g,0,none⟩) (n + 1) cap:=by
 rcases h.2 with ⟨_,h0⟩ | ⟨g,cap,cur,hv,_⟩
 ·omega
 ·exact ⟨g,cap,hv⟩
theorem own_row {w:World} {B n g c cap:Nat} {e:TypeId} {xs:List Value} (h:w.ownsRow B e 1 (.slice (some ⟨g,0,none⟩) c cap) n xs) :
  ∃ cur,w.heap[g]? = some (.cells cur e (0,0)) ∧ B ≤ g ∧ cur.toList.take n = xs ∧ n ≤ cur.size:=by
 rcases h.2 with ⟨hv,h0⟩ | ⟨g',cap',cur,hv,h1,h2,h3,_,h4,h5⟩
 ·cases hv
 ·injection hv with e1 e2 e3
  injection e1 with e1
  injection e1 with e1
  subst e1
  exact ⟨cur,h2,h1,by simpa using h5,by omega⟩
theorem own_set {w:World} {B n g c cap:Nat} {e:TypeId} {xs:List Value} (h:w.ownsRow B e 1 (.slice (some ⟨g,0,none⟩) c cap) n xs) (q:Nat) (hq:q < n) (x:Value) :
  (w.setCell ⟨g,q,none⟩ x).ownsRow B e 1 (.slice (some ⟨g,0,none⟩) c cap) n (xs.set q x):=by
 rcases h.2 with ⟨hv,h0⟩ | ⟨g',cap',cur,hv,h1,h2,h3,h3',h4,h5⟩
 ·cases hv
 ·injection hv with e1 e2 e3
  injection e1 with e1
  injection e1 with e1
  subst e1 e2 e3
  refine ⟨by simpa using h.1,.inr ⟨g,cap,cur.setIfInBounds q x,rfl,h1,?_,h3,h3',by simpa using h4,?_⟩⟩
  ·exact heap_setCell_same _ _ _ _ _ _ h2
  ·rw [← h5,Array.toList_setIfInBounds,List.take_set]
theorem bits_stored {B b q e M VV bt X g cap:Nat} {w3:World} (hB:B ≤ b) (hb3:w3.heap[b]? = some (.cells #[.slice (some ⟨g,0,none⟩) (q + 1) cap,.int .i64 (M:Nat)] 187 (0,0)))
  (hown3:w3.ownsRow B 5 1 (.slice (some ⟨g,0,none⟩) (q + 1) cap) (q + 1) ((little (q + 1) VV).map byteV)) (hgb:g ≠ b) (hdm:8 * q + e = M) (he:e < 8) (hbt:bt ≤ 1) (hV:VV < 2 ^ M)
  (hX:(UInt8.ofNat (VV / 256 ^ q)).toNat = X) :
  BitsAt B b (M + 1) (VV + bt * 2 ^ M) ((w3.setCell ⟨g,q,none⟩ (.int .u8 ((X:Int) + (bt:Int) * 2 ^ e))).setCell ⟨b,1,none⟩ (.int .i64 ((M:Int) + 1))).drew:=by
 subst hdm
 have h1:=little_put q VV e bt he hbt hV
 obtain ⟨_,hlt2⟩:=little_last q VV e he hV
 have hp:(2:Nat) ^ e ≤ 128:=Nat.pow_le_pow_right (by decide:2 > 0) (show e ≤ 7 by omega)
 have hbe:bt * 2 ^ e ≤ 128:=Nat.le_trans (Nat.mul_le_mul_right _ hbt) (by omega)
 rw [UInt8.toNat_ofNat',Nat.mod_eq_of_lt (by omega)] at hX
 have hv:Value.int .u8 ((X:Int) + (bt:Int) * 2 ^ e) = byteV (UInt8.ofNat (VV / 256 ^ q + bt * 2 ^ e)):=by
  unfold byteV
  rw [UInt8.toNat_ofNat',Nat.mod_eq_of_lt (by omega),hX]
  congr 1
 have hh:(w3.setCell ⟨g,q,none⟩ (.int .u8 ((X:Int) + (bt:Int) * 2 ^ e))).heap[b]? = some (.cells #[.slice (some ⟨g,0,none⟩) (q + 1) cap,.int .i64 ((8 * q + e:Nat):Int)] 187 (0,0)):=by
  rw [heap_setCell_other _ _ _ _ (fun h=>hgb h.symm)];exact hb3
 have ho:=own_set hown3 q (by omega) (.int .u8 ((X:Int) + (bt:Int) * 2 ^ e))
 refine ⟨hB,.slice (some ⟨g,0,none⟩) (q + 1) cap,?_,?_⟩
 ·show ((w3.setCell ⟨g,q,none⟩ (.int .u8 ((X:Int) + (bt:Int) * 2 ^ e))).setCell ⟨b,1,none⟩ (.int .i64 (((8 * q + e:Nat):Int) + 1))).heap[b]? = _
  rw [heap_setCell_same _ _ _ _ _ _ hh]
  rfl
 ·have h2:(bytesOf (8 * q + e + 1) (VV + bt * 2 ^ (8 * q + e))) = (little (q + 1) VV).set q (UInt8.ofNat (VV / 256 ^ q + bt * 2 ^ e)):=by
   rw [h1,bytesOf,show (8 * q + e + 1 + 7) / 8 = q + 1 by omega]
  rw [h2,List.length_set,little_len,List.map_set,← hv]
  have hk:=ho.kept (w':=((w3.setCell ⟨g,q,none⟩ (.int .u8 ((X:Int) + (bt:Int) * 2 ^ e))).setCell ⟨b,1,none⟩ (.int .i64 (((8 * q + e:Nat):Int) + 1))).drew) (row:=some b)
   ⟨rfl,rfl,rfl,by simp [World.setCell],fun k _ hk=>Below.heap_setCell _ _ _ _ (fun e:k = b=>hk (by rw [e]))⟩ (Or.inr (fun e=>hgb (by simpa [Value.ownBlock] using e)))
  exact hk
set_option maxRecDepth 100000 in
theorem put_any (B b m V n wd:Nat) (w:World) (h:BitsAt B b m V w) (hV:V < 2 ^ m) (hn:n < 18446744073709551616) (hwd:wd ≤ 64) (hm:m ≤ 1900000) (hBw:B ≤ w.heap.size) :
  Calls Tryz.prog 112 #[.pointer (some ⟨b,0,none⟩),.int .u64 (n:Nat),.int .i64 (wd:Nat)] w fun e w' =>
   e = .returned (.tuple #[]) ∧ BitsAt B b (m + wd) (V + (n % 2 ^ wd) * 2 ^ m) w' ∧ V + (n % 2 ^ wd) * 2 ^ m < 2 ^ (m + wd) ∧ Below B w w':=by
 obtain ⟨i0,hi,hz0,hz1,hz2⟩:=info_parts info_u8b
 go_enter Tryz.func112,Tryz.ntmps112
 go_wp2
 go_loopw [6,8] (fun _ i wr=>∃ k:Nat,k ≤ wd ∧ i = .int .i64 k ∧ BitsAt B b (m + k) (V + (n % 2 ^ k) * 2 ^ m) wr ∧ V + (n % 2 ^ k) * 2 ^ m < 2 ^ (m + k) ∧ Below B w wr) (fun _ i _=>wd - (intOf i).toNat)
 case atStart=>exact ⟨0,Nat.zero_le _,rfl,by simpa [Nat.mod_one] using h,by simpa [Nat.mod_one] using hV,Below.refl _ _⟩
 case round =>
  obtain ⟨k,hk,rfl,hat,hVk,hb⟩:=hrel
  clear h
  by_cases hlt:k < wd
  ·obtain ⟨hB,v,hbk,hown⟩:=hat
   have hMv:m + k = (m + k):=rfl
   generalize hMe:m + k = M at *
   generalize hVe:V + n % 2 ^ k * 2 ^ m = VV at *
   clear hMv
   have HM:=Lib.hid hMe;have HV:=Lib.hid hVe;clear hMe hVe
   have c0:wr.cell? ⟨b,0,none⟩ = some v:=by rw [Lib.cell_of_heap hbk];rfl
   have c1:wr.cell? ⟨b,1,none⟩ = some (.int .i64 (M:Nat)):=by rw [Lib.cell_of_heap hbk];rfl
   have hMlt:M ≤ 2000000:=by have:=HM.out;omega
   by_cases h8:M % 8 = 0
   focus
    have hd:(((M:Nat):Int) % 8 == 0) = true:=by rw [beq_iff_eq];omega
    have hlen:(bytesOf M VV).length = M / 8:=by rw [bytesOf_len];omega
    have Hlen:=Lib.hid hlen;clear hlen
    go_wp2_with (at_builtin;refine wpList_append_own _ rfl _ _ 129 rfl B 5 i0 (.int .u8 0) 1 1 Tryz.underlying129 hi hz0 hz1 hz2 rfl (by decide) _ _ _ rfl (hown.alloc _) ⟨wr.heap.size,0,none⟩ 1 1 [byteV 0] rfl rfl ?c1 ?c2 ?c3 ?c4 ?c5 ?_)
    case c1 =>
     intro j u hj
     match j,hj with
     | 0,hj=>simp at hj;subst hj;simp [Addr.add];rfl
    case c2=>intro u hu;simp at hu;subst hu;rfl
    case c3=>rw [Hlen.out];unfold maxLen;omega
    case c4=>rw [Hlen.out];omega
    case c5=>have:=hb.size;simp;omega
    intro v' w2 hown' hgrow _
    have hlt':b < wr.heap.size:=(Array.getElem?_eq_some_iff.1 hbk).1
    have hne:=Lib.ownBlock_ne hown hbk (by decide)
    have hb2:w2.heap[b]? = some (.cells #[v,.int .i64 (M:Nat)] 187 (0,0)):=by
     rw [hgrow.block b (by simp;omega) (fun e=>hne e.symm),Lib.alloc_old wr _ b hlt']
     exact hbk
    have hbel2:Below B w w2:=((hb.alloc (by have:=hb.size;omega) _).grown hgrow (by have:=hb.size;simp;omega) (fun k hk=>(hown.lt k hk).1))
    rw [← List.map_singleton (f:=byteV),← List.map_append,Hlen.out,show (bytesOf M VV) ++ [0] = little (M / 8 + 1) VV by
     rw [← little_grow (M / 8) VV (by rwa [show 8 * (M / 8) = M by omega])];rw [bytesOf,show (M + 7) / 8 = M / 8 by omega]] at hown'
    obtain ⟨g,cap,rfl⟩:=own_some hown'
    have d0:w2.cell? ⟨b,0,none⟩ = some v:=by rw [Lib.cell_of_heap hb2];rfl
    have f0:w2.frozen? ⟨b,0,none⟩ = false:=Lib.frozen_of_heap hb2 0
    go_wp2_with fail
    have hb3:(w2.setCell ⟨b,0,none⟩ (.slice (some ⟨g,0,none⟩) (M / 8 + 1) cap)).heap[b]? = some (.cells #[(.slice (some ⟨g,0,none⟩) (M / 8 + 1) cap),.int .i64 (M:Nat)] 187 (0,0)):=by
     simp [World.setCell,Array.getElem?_modify,hb2]
    have hown3:(w2.setCell ⟨b,0,none⟩ (.slice (some ⟨g,0,none⟩) (M / 8 + 1) cap)).ownsRow B 5 1 (.slice (some ⟨g,0,none⟩) (M / 8 + 1) cap) (M / 8 + 1) ((little (M / 8 + 1) VV).map byteV) :=
     hown'.kept (row:=some b) ⟨rfl,rfl,rfl,by simp [World.setCell],fun k _ hk=>Below.heap_setCell _ _ _ _ (fun e:k = b=>hk (by rw [e]))⟩ (Or.inr (Lib.ownBlock_ne hown' hb2 (T:=187) (e:=5) (by decide)))
    have hbel3:Below B w (w2.setCell ⟨b,0,none⟩ (.slice (some ⟨g,0,none⟩) (M / 8 + 1) cap)):=hbel2.setCell (p:=⟨b,0,none⟩) hB _
    generalize w2.setCell ⟨b,0,none⟩ (.slice (some ⟨g,0,none⟩) (M / 8 + 1) cap) = w3 at *
    clear hd hown hbk c0 c1 hown' hb2 hbel2 d0 f0 hgrow
   rotate_left
   focus
    have hd:(((M:Nat):Int) % 8 == 0) = false:=by rw [beq_eq_false_iff_ne];omega
    go_wp2_with fail
    have hb3:=hbk
    have hown3:=hown
    have hbel3:=hb
    rw [bytesOf,show (M + 7) / 8 = M / 8 + 1 by omega,little_len] at hown3
    obtain ⟨g,cap,rfl⟩:=own_some hown3
    clear hd hown hbk c0 c1
    obtain ⟨w3,hw3⟩:∃ w3:World,w3 = wr:=⟨_,rfl⟩
    subst hw3
   all_goals
    obtain ⟨hlast,hlt2⟩:=little_last (M / 8) VV (M % 8) (Nat.mod_lt _ (by decide)) (by rwa [Nat.div_add_mod])
   all_goals
    have he8:M % 8 < 8:=Nat.mod_lt _ (by decide)
    have hmd:((M:Nat):Int).tmod 8 = ((M % 8:Nat):Int):=rfl
    have Hdm:=Lib.hid (Nat.div_add_mod M 8)
    have Hlast:=Lib.hid hlast;clear hlast
    clear h8
    generalize M / 8 = q at *
    generalize M % 8 = e at *
    obtain ⟨cur,hgk,hBg,htake,hsz⟩:=own_row hown3
    have hcg:w3.cell? ⟨g,q,none⟩ = some (byteV (UInt8.ofNat (VV / 256 ^ q))):=by
     rw [Lib.cell_of_heap hgk]
     have:=congrArg (·[q]?) htake
     simp only [List.getElem?_take,List.getElem?_map,Hlast.out,show q < q + 1 by omega,if_true] at this
     simpa using this
    have hfg:w3.frozen? ⟨g,q,none⟩ = false:=Lib.frozen_of_heap hgk _
    have c0:w3.cell? ⟨b,0,none⟩ = some (.slice (some ⟨g,0,none⟩) (q + 1) cap):=by rw [Lib.cell_of_heap hb3];rfl
    have c1:w3.cell? ⟨b,1,none⟩ = some (.int .i64 (M:Nat)):=by rw [Lib.cell_of_heap hb3];rfl
    unfold byteV at hcg
    have hbn:=(UInt8.ofNat (VV / 256 ^ q)).toNat_lt
    generalize hX:(UInt8.ofNat (VV / 256 ^ q)).toNat = X at hcg hbn
    have HX:=Lib.hid hX;clear hX
    clear htake hsz
    have hq1:IntKind.i64.wrap ((q:Nat):Int) = (q:Int):=wrap_small _ (by omega) (by have:=Hdm.out;omega)
    have hbt:bits .and .u64 ((n:Int) / 2 ^ k) 1 = ((n / 2 ^ k % 2:Nat):Int):=by
     rw [show ((n:Int) / 2 ^ k) = ((n / 2 ^ k:Nat):Int) by simp,show (1:Int) = ((1:Nat):Int) from rfl,u64_and_nat _ 1 (Nat.lt_of_le_of_lt (Nat.div_le_self _ _) hn) (by decide),nat_mask1]
    have hbt1:n / 2 ^ k % 2 ≤ 1:=by omega
    have Hbt:=Lib.hid (bits_succ n k)
    generalize n / 2 ^ k % 2 = bt at *
    have hw8:IntKind.u8.wrap ((bt:Nat):Int) = (bt:Int):=by rw [IntKind.wrap_u8];omega
    have hX2:X < 2 ^ e:=by
     rw [← HX.out,UInt8.toNat_ofNat',Nat.mod_eq_of_lt (Nat.lt_of_lt_of_le hlt2 (Nat.pow_le_pow_right (by decide) (by omega)))]
     exact hlt2
    have hbe:bt * 2 ^ e ≤ 128:=Nat.le_trans (Nat.mul_le_mul hbt1 (Nat.pow_le_pow_right (by decide:2 > 0) (show e ≤ 7 by omega))) (by decide)
    have hor:bits .or .u8 (X:Int) ((bt:Int) * 2 ^ e % 256) = ((X + bt * 2 ^ e:Nat):Int):=by
     rw [show ((bt:Int) * 2 ^ e % 256) = ((bt * 2 ^ e:Nat):Int) by rw [Int.natCast_mul,Int.natCast_pow];exact Int.emod_eq_of_lt (by exact_mod_cast Nat.zero_le (bt * 2 ^ e)) (by exact_mod_cast (show bt * 2 ^ e < 256 by omega))]
     rw [u8_or_nat _ _ (by omega) (by omega),Nat.or_comm,Nat.add_comm,Nat.mul_comm bt,← Nat.two_pow_add_eq_or_of_lt hX2]
    have hgb:g ≠ b:=fun h=>Lib.ownBlock_ne hown3 hb3 (T:=187) (e:=5) (by decide) (by rw [h];rfl)
    have hgb':b ≠ g:=fun h=>hgb h.symm
    have Hhor:=Lib.hid hbe;clear hbe
    have HX2:=Lib.hid hX2;clear hX2
    have fb1:w3.frozen? ⟨b,1,none⟩ = false:=Lib.frozen_of_heap hb3 1
    have hin:((q:Nat):Int) < (q:Int) + 1:=by omega
    go_still_tail 25,(by kernel_rfl)
    obtain ⟨w4,hw4⟩:∃ w4:World,w4 = w3.drew:=⟨_,rfl⟩
    change wpList _ _ _ _ _ w3.drew
    rw [← hw4]
    go_wp2_with fail
    go_roundw
    case rel =>
     have hst:=bits_stored hB hb3 hown3 hgb Hdm.out he8 hbt1 hVk HX.out
     have hnum:V + n % 2 ^ (k + 1) * 2 ^ m = VV + bt * 2 ^ M:=by
      rw [Hbt.out,← HV.out,← HM.out,Nat.add_mul,Nat.mul_assoc,← Nat.pow_add,Nat.add_comm k m,Nat.add_assoc]
     refine ⟨k + 1,by omega,by go_num,?_,?_,?_⟩
     ·rw [hnum,show m + (k + 1) = M + 1 by rw [← HM.out];omega]
      exact hst
     ·rw [hnum,show m + (k + 1) = M + 1 by rw [← HM.out];omega,Nat.pow_succ]
      have:=Nat.mul_le_mul_right (2 ^ M) hbt1
      omega
     ·exact ((hbel3.setCell (p:=⟨g,q,none⟩) hBg _).setCell (p:=⟨b,1,none⟩) hB _).drew
    case measure=>simp [intOf];omega
  ·obtain rfl:k = wd:=by omega
   go_wp2
   go_end0
   exact ⟨rfl,hat,hVk,hb⟩
end Go.Proofs.YtapiabmmfmfaeaaGreatDoor
/- Lists of numbers that came in; the walks of bitrun.check, pack, Pack. -/
namespace Go.Proofs.YtapiabmmfmfaeaaGreatDoor
set_option maxHeartbeats 2000000
open Go Go.RowKit Go.ChangeShapes
def IsNums (K:IntKind) (w:World) (v:Value) (l:List Int):Prop :=
 (l = [] ∧ ∃ ad cap,v = .slice ad 0 cap) ∨ (∃ b off cap,v = .slice (some ⟨b,off,none⟩) l.length cap ∧ b < w.heap.size ∧ ∀ j x,l[j]? = some x → w.cell? ⟨b,off + j,none⟩ = some (.int K x))
abbrev IsInts:=IsNums .i64
def Fits (l:List Int):Prop:=l.length ≤ maxLen ∧ ∀ x ∈ l,-9223372036854775808 ≤ x ∧ x < 9223372036854775808
theorem IsNums.below {K:IntKind} {w w':World} {v:Value} {l:List Int} {B:Nat} (h:IsNums K w v l) (hb:Below B w w') (hB:w.heap.size ≤ B):IsNums K w' v l:=by
 rcases h with h | ⟨b,off,cap,rfl,hlt,hc⟩
 ·exact .inl h
 ·exact .inr ⟨b,off,cap,rfl,by have:=hb.size;omega,fun j x hj=>(hb.cell (p:=⟨b,off + j,none⟩) (by show b < B;omega)).trans (hc j x hj)⟩
theorem IsNums.form {K:IntKind} {w:World} {v:Value} {l:List Int} (h:IsNums K w v l):∃ ad cap,v = .slice ad l.length cap:=by
 rcases h with ⟨rfl,h⟩ | ⟨b,off,cap,rfl,_⟩
 ·exact h
 ·exact ⟨_,_,rfl⟩
theorem IsNums.at {K:IntKind} {w:World} {ad:Option Addr} {n cap:Nat} {l:List Int} (h:IsNums K w (.slice ad n cap) l) (hl:0 < l.length) :
  ∃ b off,ad = some ⟨b,off,none⟩ ∧ n = l.length ∧ b < w.heap.size ∧ ∀ j x,l[j]? = some x → w.cell? ⟨b,off + j,none⟩ = some (.int K x):=by
 rcases h with ⟨rfl,_⟩ | ⟨b,off,cap',he,hlt,hc⟩
 ·simp at hl
 ·injection he with e1 e2 e3
  exact ⟨b,off,e1,e2,hlt,hc⟩
theorem IsNums.of_own {K:IntKind} {w:World} {B:Nat} {e:TypeId} {v:Value} {l:List Int} (h:w.ownsRow B e 1 v l.length (l.map fun x=>.int K x)):IsNums K w v l:=by
 rcases h.2 with ⟨rfl,h0⟩ | ⟨g,cap,cur,rfl,_,hg,_,_,_,_⟩
 ·exact .inl ⟨List.eq_nil_of_length_eq_zero h0,none,0,rfl⟩
 ·refine .inr ⟨g,0,cap,rfl,(Array.getElem?_eq_some_iff.1 hg).1,fun j x hj=>?_⟩
  have hlt:j < l.length:=(List.getElem?_eq_some_iff.1 hj).1
  have:=h.cellAt j (by omega)
  rw [Nat.zero_add,this]
  simp [hj]
def Good (wd:Nat) (x:Int):Prop:=0 ≤ x ∧ x < 2 ^ wd
set_option maxRecDepth 100000 in
theorem check_ok (v:Value) (l:List Int) (wd:Nat) (w:World) (hI:IsInts w v l) (h1:wd ≤ 32) (h2:l.length ≤ 20000) (hg:∀ x ∈ l,Good wd x) :
  Calls Tryz.prog 97 #[v,.int .i64 (wd:Nat)] w fun e w'=>e = .returned .nilIface ∧ Below w.heap.size w w':=by
 obtain ⟨ad,cap,rfl⟩:=hI.form
 have d2:decide ((32:Int) < (wd:Int)) = false:=by simp;omega
 have d3:decide ((20000:Int) < (l.length:Int)) = false:=by simp;omega
 go_enter Tryz.func97,Tryz.ntmps97
 go_wp2
 go_loop [21] (fun i=>∃ k:Nat,k ≤ l.length ∧ i = .int .i64 k) (fun i=>l.length - (intOf i).toNat)
 case atStart=>exact ⟨0,Nat.zero_le _,rfl⟩
 case round =>
  obtain ⟨k,hk,rfl⟩:=hrel
  by_cases hlt:k < l.length
  ·obtain ⟨b,off,rfl,_,_,hc⟩:=hI.at (by omega)
   have hck:=hc k l[k] (List.getElem?_eq_getElem hlt)
   obtain ⟨g1,g2⟩:=hg l[k] (List.getElem_mem hlt)
   generalize l[k] = x at *
   have d4:decide (x < 0) = false:=by simpa using g1
   have d5:decide ((0:Int) < x / 2 ^ wd) = false:=by
    rw [Int.ediv_eq_zero_of_lt g1 g2];rfl
   clear g1 g2 hc hg
   go_wp2
   go_round
   case rel=>exact ⟨k + 1,by omega,by go_num⟩
   case measure=>simp [intOf];omega
  ·go_wp2
   go_ret
   exact ⟨rfl,Below.refl _ _⟩
def nats (l:List Int):List Nat:=l.map Int.toNat
set_option maxRecDepth 100000 in
theorem pack_any (v:Value) (l:List Int) (wd:Nat) (w:World) (hI:IsInts w v l) (h1:wd ≤ 32) (h2:l.length ≤ 20000) (hg:∀ x ∈ l,Good wd x) :
  Calls Tryz.prog 100 #[v,.int .i64 (wd:Nat)] w fun e w'=>e = .returned (.string ⟨(packed wd (nats l)).toArray⟩) ∧ Below w.heap.size w w':=by
 obtain ⟨ad,cap,rfl⟩:=hI.form
 have hz:BitsAt w.heap.size w.heap.size 0 0 (w.alloc (.cells #[.slice none 0 0,.int .i64 0] 187)):=⟨Nat.le_refl _,.slice none 0 0,heap_alloc_new w _,World.ownsRow_nil _ _ _ _⟩
 go_enter Tryz.func100,Tryz.ntmps100
 go_wp2_with fail
 go_loopw [7,10] (fun _ i wr=>∃ k:Nat,k ≤ l.length ∧ i = .int .i64 k ∧ BitsAt w.heap.size w.heap.size (k * wd) (packN wd (nats (l.take k))) wr ∧ packN wd (nats (l.take k)) < 2 ^ (k * wd) ∧ Below w.heap.size w wr) (fun _ i _=>l.length - (intOf i).toNat)
 case atStart =>
  refine ⟨0,Nat.zero_le _,rfl,?_,?_,(Below.refl _ _).alloc (Nat.le_refl _) _⟩
  ·simpa [nats,packN] using hz
  ·simp [nats,packN]
 case round =>
  obtain ⟨k,hk,rfl,hat,hV,hb⟩:=hrel
  clear hz
  have hI1:=hI.below hb (Nat.le_refl _)
  by_cases hlt:k < l.length
  ·obtain ⟨b,off,rfl,_,_,hc⟩:=hI1.at (by omega)
   have hck:=hc k l[k] (List.getElem?_eq_getElem hlt)
   obtain ⟨g1,g2⟩:=hg l[k] (List.getElem_mem hlt)
   have hn:nats (l.take (k + 1)) = nats (l.take k) ++ [l[k].toNat]:=by
    rw [List.take_succ_eq_append_getElem hlt,nats,List.map_append];rfl
   have hln:(nats (l.take k)).length = k:=by simp [nats];omega
   have hp:=packN_snoc wd l[k].toNat (nats (l.take k))
   rw [← hn,hln] at hp
   generalize l[k] = x at *
   obtain ⟨n,rfl⟩:=Int.eq_ofNat_of_zero_le g1
   have g3:n < 2 ^ wd:=by exact_mod_cast g2
   have g4:n < 18446744073709551616:=Nat.lt_of_lt_of_le g3 (Nat.le_trans (Nat.pow_le_pow_right (by decide:2 > 0) h1) (by decide))
   have hm:k * wd ≤ 1000000:=Nat.le_trans (Nat.mul_le_mul (show k ≤ 20000 by omega) h1) (by decide)
   rw [Int.toNat_natCast] at hp
   have Hp:=Lib.hid hp
   clear g1 g2 hc hg hn hln hp
   go_wp2_with fail
   refine (put_any w.heap.size w.heap.size (k * wd) _ n wd wr hat hV g4 (by omega) (by omega) hb.size).mono ?_
   rintro e w1 ⟨rfl,hat1,hV1,hb1⟩
   rw [Nat.mod_eq_of_lt g3,← Hp.out] at hat1 hV1
   go_wp2_with fail
   go_roundw
   case rel=>exact ⟨k + 1,by omega,by go_num,by rw [Nat.add_one_mul];exact hat1,by rw [Nat.add_one_mul];exact hV1,hb.trans hb1⟩
   case measure=>simp [intOf];omega
  ·obtain rfl:k = l.length:=by omega
   rw [List.take_length] at hat hV
   go_wp2_with fail
   refine (text_bits _ _ _ _ _ hat).mono ?_
   rintro e w1 ⟨rfl,rfl⟩
   go_wp2
   go_ret
   refine ⟨?_,hb⟩
   have hl:(nats l).length = l.length:=by simp [nats]
   unfold packed
   rw [hl]
   rfl
end Go.Proofs.YtapiabmmfmfaeaaGreatDoor
/- The walk of the statement BitsWidth. -/
namespace Go.Proofs.YtapiabmmfmfaeaaGreatDoor
set_option maxHeartbeats 2000000
open Go Go.RowKit Go.ChangeShapes
theorem bits_Len_n (x:Int) (w:World) (h0:0 ≤ x) (h1:x ≤ 18446744073709551615) :
  Calls Tryz.prog 77 #[.int .u64 x] w fun e w'=>e = .returned (.int .i64 (Lib.bitLen x.toNat)) ∧ w' = w:=Tryz.bits_Len x w h0 h1
theorem bitLenAux_le:∀ f x,Lib.bitLenAux f x ≤ f
 | 0,x=>Nat.le_refl _
 | f + 1,x=>by
  have:=bitLenAux_le f (x / 2)
  rw [Lib.bitLenAux];split <;> omega
theorem bitLen_le (x:Nat):Lib.bitLen x ≤ 64:=bitLenAux_le 64 x
set_option maxRecDepth 100000 in
theorem width_any (x:Int) (h0:-9223372036854775808 ≤ x) (h1:x < 9223372036854775808) (w:World) :
  Calls Tryz.prog 45 #[.int .i64 x] w fun e w'=>e = .returned (.int .i64 (Lib.bitLen x.toNat)) ∧ w' = w:=by
 go_enter Tryz.func45,Tryz.ntmps45
 go_wp2_with fail
 refine (bits_Len_n (max 0 x) w (by omega) (by omega)).mono ?_
 rintro e w1 ⟨rfl,rfl⟩
 go_wp2_with fail
 go_ret
 rw [show (max 0 x).toNat = x.toNat by omega]
 exact ⟨rfl,rfl⟩
set_option maxRecDepth 100000 in
theorem widthOf_any (x:Nat) (h1:x < 18446744073709551616) (w:World) :
  Calls Tryz.prog 58 #[.int .u64 (x:Nat)] w fun e w'=>e = .returned (.int .i64 (Lib.bitLen x)) ∧ w' = w:=by
 have hl:=bitLen_le x
 go_enter Tryz.func58,Tryz.ntmps58
 go_wp2_with fail
 go_loop [0,3] (fun m c=>∃ k t:Nat,m = .int .u64 (k:Nat) ∧ c = .int .i64 (t:Nat) ∧ k < 18446744073709551616 ∧ Lib.bitLen x = Lib.bitLen k + t) (fun m _=>(intOf m).toNat)
 case atStart=>exact ⟨x,0,rfl,rfl,h1,rfl⟩
 case round =>
  obtain ⟨k,t,rfl,rfl,hk,hs⟩:=hrel
  have ht:t ≤ 64:=by omega
  by_cases h0:0 < k
  ·have hh:=Lib.bitLen_half k (by omega) (by omega)
   have Hs:=Lib.hid hs;have Hh:=Lib.hid hh;clear hs hh hl
   go_wp2
   go_round
   case rel=>exact ⟨k / 2,t + 1,by go_num,by go_num,by omega,by rw [Hs.out,Hh.out];omega⟩
   case measure=>simp [intOf];omega
  ·obtain rfl:k = 0:=by omega
   have hz:Lib.bitLen 0 = 0:=rfl
   rw [hz,Nat.zero_add] at hs
   rw [hs]
   go_wp2
   go_ret
   exact ⟨rfl,rfl⟩
end Go.Proofs.YtapiabmmfmfaeaaGreatDoor
/- The document's numbers in bits: the walks of Bare, Fine, BitsError, Wide, bitsOf, PackOf; and of the statement's faulted, ints. -/
namespace Go.Proofs.YtapiabmmfmfaeaaGreatDoor
set_option maxHeartbeats 2000000
open Go Go.RowKit Go.ChangeShapes
def faultV (c p:Int):Value:=.agg #[.int .i64 c,.int .i64 p]
set_option maxRecDepth 100000 in
theorem fine_any (w:World):Calls Tryz.prog 64 #[] w fun e w'=>e = .returned (faultV 0 (-1)) ∧ Below w.heap.size w w':=by
 go_enter Tryz.func64,Tryz.ntmps64
 go_wp2_with fail
 refine bodyPost_ret (v:=faultV 0 (-1)) (results_cell_row Tryz.results64 _ _ w.heap.size 75 _ (0,0) _ rfl (heap_alloc_new _ _) Tryz.underlying75 rfl (by kernel_rfl)) rfl ⟨rfl,(Below.refl _ _).alloc (Nat.le_refl _) _⟩
set_option maxRecDepth 100000 in
theorem bare_any (c:Int) (w:World):Calls Tryz.prog 62 #[.int .i64 c] w fun e w'=>e = .returned (faultV c (-1)) ∧ Below w.heap.size w w':=by
 go_enter Tryz.func62,Tryz.ntmps62
 go_wp2_with fail
 refine bodyPost_ret (v:=faultV c (-1)) (results_cell_row Tryz.results62 _ _ w.heap.size 75 _ (0,0) _ rfl (heap_alloc_new _ _) Tryz.underlying75 rfl (by kernel_rfl)) rfl ⟨rfl,(Below.refl _ _).alloc (Nat.le_refl _) _⟩
theorem shl_one (wd:Nat) (h:wd ≤ 32):(2:Int) ^ wd < 9223372036854775808 ∧ 0 < (2:Int) ^ wd:=by
 have h1:(2:Nat) ^ wd ≤ 2 ^ 32:=Nat.pow_le_pow_right (by decide) h
 have h2:0 < (2:Nat) ^ wd:=Nat.pow_pos (by decide)
 have h3:((2:Nat) ^ wd:Nat) = ((2:Int) ^ wd):=by simp
 omega
end Go.Proofs.YtapiabmmfmfaeaaGreatDoor
/- The document's numbers in bits: the walks of Wide, bitsOf, PackOf; and of the statement's faulted, ints. -/
namespace Go.Proofs.YtapiabmmfmfaeaaGreatDoor
set_option maxHeartbeats 2000000
open Go Go.RowKit Go.ChangeShapes
theorem info_u64:(Tryz.prog.info? 84).map (fun i=>(i.zero,i.size,i.bytes)) = some (some (.int .u64 0),1,8):=by kernel_rfl
theorem info_int:(Tryz.prog.info? 3).map (fun i=>(i.zero,i.size,i.bytes)) = some (some (.int .i64 0),1,8):=by kernel_rfl
def i64V (n:Int):Value:=.int .i64 n
def ints (l:List Nat):List Int:=l.map fun (n:Nat)=>(n:Int)
theorem ints_nats (l:List Int) (h:∀ x ∈ l,0 ≤ x):ints (nats l) = l:=by
 unfold ints nats
 rw [List.map_map]
 conv=>rhs;rw [← List.map_id l]
 exact List.map_congr_left fun x hx=>Int.toNat_of_nonneg (h x hx)
set_option maxRecDepth 100000 in
theorem bitsOf_any (v:Value) (l:List Nat) (wd:Nat) (w:World) (hI:IsNums .u64 w v (ints l)) (h1:wd ≤ 32) (h2:l.length ≤ 20000) (hg:∀ n ∈ l,n < 18446744073709551616) :
  Calls Tryz.prog 124 #[v,.int .i64 (wd:Nat)] w fun e w'=>(∃ u,e = .returned u ∧ w'.ownsRow w.heap.size 5 1 u (allBits wd l).length ((allBits wd l).map byteV)) ∧ Below w.heap.size w w':=by
 obtain ⟨ad,cap,rfl⟩:=hI.form
 have hlen:(ints l).length = l.length:=by simp [ints]
 rw [hlen]
 rw [hlen] at hI
 have Hlen:=Lib.hid hlen
 clear hlen
 obtain ⟨i0,hi,hz0,hz1,hz2⟩:=info_parts info_u8b
 go_enter Tryz.func124,Tryz.ntmps124
 go_wp2
 go_loopw [5,6] (fun u i wr=>∃ k:Nat,k ≤ l.length ∧ i = .int .i64 k ∧ wr.ownsRow w.heap.size 5 1 u (allBits wd (l.take k)).length ((allBits wd (l.take k)).map byteV) ∧ Below w.heap.size w wr) (fun _ i _=>l.length - (intOf i).toNat)
 case atStart=>exact ⟨0,Nat.zero_le _,rfl,World.ownsRow_nil _ _ _ _,Below.refl _ _⟩
 case round =>
  obtain ⟨k,hk,rfl,hown,hb⟩:=hrel
  have hI1:=hI.below hb (Nat.le_refl _)
  have Ho:=Lib.hid hown;clear hown
  by_cases hlt:k < l.length
  ·obtain ⟨b,off,rfl,hq,_,hc⟩:=hI1.at (by rw [Hlen.out];omega)
   clear hq
   have hck:=hc k l[k] (by simp [ints,List.getElem?_eq_getElem hlt])
   have g2:=hg l[k] (List.getElem_mem hlt)
   have hn:l.take (k + 1) = l.take k ++ [l[k]]:=List.take_succ_eq_append_getElem hlt
   have hlb:=allBits_len wd (l.take k)
   have hle:(l.take k).length * wd ≤ 20000 * 32:=Nat.mul_le_mul (by simp;omega) h1
   generalize l[k] = x at *
   have hsn:=allBits_snoc wd x (l.take k)
   rw [← hn] at hsn
   have Hsn:=Lib.hid hsn
   have hle2:(allBits wd (l.take k)).length ≤ 640000:=by rw [hlb];exact hle
   have Hle2:=Lib.hid hle2
   clear hc hn hg hsn hlb hle hle2
   go_wp2
   have hle2:=Hle2.out
   generalize allBits wd (l.take k) = L at *
   go_loopw [5,7,8] (fun u n j wr'=>∃ m:Nat,m ≤ wd ∧ j = .int .i64 m ∧ n = .int .u64 ((x / 2 ^ m:Nat):Int) ∧ wr'.ownsRow w.heap.size 5 1 u (L ++ bitsL m x).length ((L ++ bitsL m x).map byteV) ∧ Below w.heap.size w wr') (fun _ _ j _=>wd - (intOf j).toNat)
   case atStart=>exact ⟨0,Nat.zero_le _,rfl,by simp,by simpa [bitsL] using Ho.out,hb⟩
   case round =>
    obtain ⟨m,hm,rfl,rfl,hown,hb2⟩:=hrel
    have Ho2:=Lib.hid hown;clear hown
    by_cases hlt2:m < wd
    ·have hd:x / 2 ^ m / 2 = x / 2 ^ (m + 1):=by rw [Nat.div_div_eq_div_mul,Nat.pow_succ]
     have Hd:=Lib.hid hd
     have hsn:=Lib.hid (bitsL_snoc m x)
     have hll:(L ++ bitsL m x).length = L.length + m:=by rw [List.length_append,bitsL_len]
     have h63:(L ++ bitsL m x).length + 1 ≤ maxLen:=by rw [hll];unfold maxLen;omega
     have h64:((L ++ bitsL m x).length + 1) * 1 ≤ 140737488355328:=by rw [hll];omega
     have hy:x / 2 ^ m < 18446744073709551616:=Nat.lt_of_le_of_lt (Nat.div_le_self _ _) g2
     clear hd hll
     generalize x / 2 ^ m = y at *
     go_wp2_with (at_builtin;refine wpList_push rfl _ _ 129 rfl w.heap.size 5 i0 (.int .u8 0) 1 Tryz.underlying129 hi hz0 hz1 hz2 rfl byteV byteV_one _ _ rfl Ho2.out _ _ rfl h63 h64 hb2.size (UInt8.ofNat (y % 2)) (byteV_ofNat (by go_num) (by omega)) ?_;intro v' w1 hown' hb' hnn;have Ho':=Lib.hid hown';clear hown')
     go_roundw
     case rel=>exact ⟨m + 1,by omega,by go_num,by rw [← Hd.out];go_num,by rw [hsn.out,← List.append_assoc];exact Ho'.out,hb2.trans hb'⟩
     case measure=>simp [intOf];omega
    ·obtain rfl:m = wd:=by omega
     go_wp2
     go_roundw
     case rel=>exact ⟨k + 1,by omega,by go_num,by rw [Hsn.out];exact Ho2.out,hb2⟩
     case measure=>simp [intOf];omega
  ·obtain rfl:k = l.length:=by omega
   rw [List.take_length] at Ho
   go_wp2
   go_ret
   exact ⟨⟨_,rfl,Ho.out⟩,hb⟩
end Go.Proofs.YtapiabmmfmfaeaaGreatDoor
/- The walks of the document's PackOf and of the statement's faulted, ints. -/
namespace Go.Proofs.YtapiabmmfmfaeaaGreatDoor
set_option maxHeartbeats 2000000
open Go Go.RowKit Go.ChangeShapes
theorem wrap64_small (n:Int) (h0:0 ≤ n) (h1:n < 9223372036854775808):wrap64 n = n:=by unfold wrap64;omega
theorem bytes_nums {w:World} {B:Nat} {e:TypeId} {v:Value} {L:List UInt8} (h:w.ownsRow B e 1 v L.length (L.map byteV)):IsNums .u8 w v (L.map fun b=>(b.toNat:Int)):=by
 refine IsNums.of_own (B:=B) (e:=e) ?_
 rw [List.length_map,List.map_map]
 exact h
set_option maxRecDepth 100000 in
theorem packOf_any (v:Value) (l:List Nat) (wd:Nat) (w:World) (hI:IsNums .u64 w v (ints l)) (h1:wd ≤ 32) (h2:l.length ≤ 20000) (hg:∀ n ∈ l,n < 2 ^ wd) :
  Calls Tryz.prog 116 #[v,.int .i64 (wd:Nat)] w fun e w'=>e = .returned (.string ⟨(packed wd l).toArray⟩) ∧ Below w.heap.size w w':=by
 have hg64:∀ n ∈ l,n < 18446744073709551616:=fun n hn=>Nat.lt_of_lt_of_le (hg n hn) (Nat.le_trans (Nat.pow_le_pow_right (by decide:2 > 0) h1) (by decide))
 go_enter Tryz.func116,Tryz.ntmps116
 go_wp2_with fail
 refine (bitsOf_any v l wd w hI h1 h2 hg64).mono ?_
 rintro e w0 ⟨⟨u,rfl,hown⟩,hb0⟩
 have hN:=bytes_nums hown
 have hlen:=allBits_len wd l
 have hbit:=allBits_bit wd l
 have hV:=valB_lt _ hbit
 have hget:=fun j b=>valB_get (allBits wd l) j b hbit
 have hle:(allBits wd l).length ≤ 640000:=by rw [hlen];exact Nat.mul_le_mul h2 h1
 have hend:=packed_end wd l hg
 rw [← hlen] at hend
 clear hlen hg hg64 hI hown
 generalize allBits wd l = L at *
 obtain ⟨ad,cap,rfl⟩:=hN.form
 rw [List.length_map] at hN
 rw [List.length_map]
 go_wp2_with fail
 go_loopw [6,7] (fun o i wr=>∃ j:Nat,8 * j < L.length + 8 ∧ i = .int .i64 ((8 * j:Nat):Int) ∧ o = .string ⟨(little j (valB L)).toArray⟩ ∧ Below w0.heap.size w0 wr) (fun _ i _=>L.length + 8 - (intOf i).toNat)
 case atStart=>exact ⟨0,by omega,rfl,rfl,Below.refl _ _⟩
 case round =>
  obtain ⟨j,hj,rfl,rfl,hb⟩:=hrel
  have hN1:=hN.below hb (Nat.le_refl _)
  by_cases hlt:8 * j < L.length
  ·obtain ⟨b,off,rfl,hq,_,hc⟩:=hN1.at (by rw [List.length_map];omega)
   clear hq
   have hin:8 * j ≤ 640000:=by omega
   have hdone:=fun k=>byte_done (valB L) j k L.length hV
   have hmore:=fun k=>bit_more (valB L) (8 * j) k
   have hsn:=little_snoc j (valB L)
   generalize hV':valB L = V at *
   have Hdone:=Lib.hid hdone
   have Hmore:=Lib.hid hmore
   have Hsn:=Lib.hid hsn
   have hI8:∃ I,I = 8 * j:=⟨_,rfl⟩
   obtain ⟨I,hI8⟩:=hI8
   rw [← hI8] at Hdone Hmore hlt hin ⊢
   have HI:=Lib.hid hI8
   clear hdone hmore hsn hI8 hV hj hV'
   go_wp2_with fail
   go_loopw [8,9] (fun c k wr'=>∃ m:Nat,m ≤ 8 ∧ I + m ≤ L.length ∧ k = .int .i64 m ∧ c = .int .i64 ((V / 2 ^ I % 2 ^ m:Nat):Int) ∧ wr' = wr) (fun _ k _=>8 - (intOf k).toNat)
   case atStart=>exact ⟨0,by omega,by omega,rfl,by simp [Nat.mod_one],rfl⟩
   case round =>
    obtain ⟨m,hm,hm2,rfl,rfl,rfl⟩:=hrel
    have hsz:=hb.size
    by_cases hin2:m < 8 ∧ I + m < L.length
    ·obtain ⟨hm8,hil⟩:=hin2
     have hck:=hc (I + m) (L[I + m].toNat:Int) (by simp [List.getElem?_eq_getElem hil])
     have hbv:=hget (I + m) L[I + m] (List.getElem?_eq_getElem hil)
     have hb2:=hbit L[I + m] (List.getElem_mem hil)
     generalize L[I + m].toNat = bt at *
     have Hm:=Lib.hid (Hmore.out m)
     rw [HI.out,← HI.out] at Hm
     have Hbv:=Lib.hid hbv
     have d1:decide ((I:Int) + (m:Int) < (L.length:Int)) = true:=by rw [decide_eq_true_iff];omega
     have hp:(2:Nat) ^ m ≤ 128:=Nat.pow_le_pow_right (by decide:2 > 0) (show m ≤ 7 by omega)
     have hmod:V / 2 ^ I % 2 ^ m < 128:=Nat.lt_of_lt_of_le (Nat.mod_lt _ (Nat.pow_pos (by decide))) hp
     have hpr:bt * 2 ^ m ≤ 128:=Nat.le_trans (Nat.mul_le_mul_right _ (show bt ≤ 1 by omega)) (by omega)
     have hpi:((bt:Int) * 2 ^ m) = ((bt * 2 ^ m:Nat):Int):=by rw [Int.natCast_mul,Int.natCast_pow];rfl
     generalize V / 2 ^ I % 2 ^ m = c at *
     have hw1:IntKind.i64.wrap ((bt:Int) * 2 ^ m) = ((bt * 2 ^ m:Nat):Int):=by rw [hpi];exact wrap_small _ (by omega) (by omega)
     have Hpi:=Lib.hid hpi
     clear hbv hpi hp hget hc
     go_wp2_with fail
     go_roundw
     case rel =>
      refine ⟨m + 1,by omega,by omega,by go_num,?_,trivial⟩
      rw [Hm.out,Hbv.out,Hpi.out]
      exact congrArg _ (by rw [wrap64_small _ (by omega) (by omega),Int.natCast_add])
     case measure=>simp [intOf];omega
    ·have hv:V / 2 ^ I % 2 ^ m = V / 256 ^ j % 256:=Hdone.out m hm (by omega)
     have hcc:V / 256 ^ j % 256 < 256:=Nat.mod_lt _ (by decide)
     have hHI:=HI.out
     clear hget hc hbit
     have hgo:∃ c:Nat,c = V / 2 ^ I % 2 ^ m:=⟨_,rfl⟩
     obtain ⟨c,hcv⟩:=hgo
     rw [← hcv] at hv ⊢
     have Hv:=Lib.hid hv
     clear hcv hv
     have Hhi:=Lib.hid hHI
     have hll:=little_len j V
     have hj2:j ≤ 80000:=by omega
     clear hHI
     by_cases hm8:m < 8
     focus
      have d1:decide ((I:Int) + (m:Int) < (L.length:Int)) = false:=by rw [decide_eq_false_iff_not];omega
      clear hin2
     rotate_left
     focus
      have d1:True:=trivial
      clear hin2
     all_goals
      go_wp2_with (go_at_call 118;refine (byte_any _ _).mono ?_;rintro e w1 ⟨rfl,hb1⟩)
      go_roundw
      case rel =>
       refine ⟨j + 1,by have:=Hhi.out;omega,by rw [Hhi.out];go_num,?_,below_trans hb hb1⟩
       rw [Hsn.out]
       rw [ByteArray.mk_append_mk _ [_]]
       have h3:=Hv.out
       rw [← h3,show c % 256 = c by omega]
      case measure=>have:=Hhi.out;simp [intOf];omega
  ·have h3:=hend j (by omega) hj
   have H3:=Lib.hid h3
   clear hget hend h3
   go_wp2_with fail
   go_ret
   refine ⟨ret_of (by rw [← H3.out];rfl),below_trans hb0 hb⟩
end Go.Proofs.YtapiabmmfmfaeaaGreatDoor
/- The walks of bitrun's Get, size, Unpack, and of the document's UnpackOf. -/
namespace Go.Proofs.YtapiabmmfmfaeaaGreatDoor
set_option maxHeartbeats 2000000
open Go Go.RowKit Go.ChangeShapes
set_option maxRecDepth 100000 in
theorem size_any (n wd:Nat) (hn:n ≤ 20008) (hw:wd ≤ 32) (w:World) :
  Calls Tryz.prog 75 #[.int .i64 (n:Nat),.int .i64 (wd:Nat)] w fun e w'=>e = .returned (.int .i64 (((n * wd + 7) / 8:Nat):Int)) ∧ w' = w:=by
 have hm:n * wd ≤ 700000:=Nat.le_trans (Nat.mul_le_mul hn hw) (by decide)
 have hw1:IntKind.i64.wrap ((n:Int) * (wd:Int)) = ((n * wd:Nat):Int):=by rw [← Int.natCast_mul];exact wrap_small _ (by omega) (by omega)
 generalize n * wd = N at *
 clear hn hw
 go_enter Tryz.func75,Tryz.ntmps75
 go_wp2
 go_ret
 refine ⟨ret_of ?_,rfl⟩
 show Value.int .i64 (((N:Nat) + 7:Int) / 8) = _
 rfl
theorem get_step (X b e k:Nat) (hX:X < 2 ^ k) (hb:b < 256) (hp:(2:Nat) ^ k ≤ 4294967296) :
  bits .or .u64 (X:Int) (IntKind.u64.wrap (IntKind.u64.wrap (bits .and .u8 ((b:Int) / 2 ^ e) 1) * 2 ^ k)) = ((X + b / 2 ^ e % 2 * 2 ^ k:Nat):Int):=by
 have hd:b / 2 ^ e < 256:=Nat.lt_of_le_of_lt (Nat.div_le_self _ _) hb
 rw [show ((b:Int) / 2 ^ e) = ((b / 2 ^ e:Nat):Int) by simp,show (1:Int) = ((1:Nat):Int) from rfl,u8_and_nat _ 1 hd (by decide),nat_mask1]
 have h1:b / 2 ^ e % 2 ≤ 1:=by omega
 generalize b / 2 ^ e % 2 = t at *
 have h2:t * 2 ^ k ≤ 4294967296:=Nat.le_trans (Nat.mul_le_mul_right _ h1) (by omega)
 rw [show IntKind.u64.wrap ((t:Nat):Int) = (t:Int) by rw [IntKind.wrap_u64];omega,show ((t:Int) * 2 ^ k) = ((t * 2 ^ k:Nat):Int) by rw [Int.natCast_mul,Int.natCast_pow];rfl,
  show IntKind.u64.wrap ((t * 2 ^ k:Nat):Int) = ((t * 2 ^ k:Nat):Int) by rw [IntKind.wrap_u64];omega,u64_or_nat _ _ (by omega) (by omega),Nat.or_comm,Nat.add_comm,Nat.mul_comm t,← Nat.two_pow_add_eq_or_of_lt hX]
set_option maxRecDepth 100000 in
theorem get_any (s:ByteArray) (at' wd:Nat) (w:World) (hw:wd ≤ 32) (hs:at' + wd ≤ 8 * s.size) (hm:s.size ≤ 1000000) :
  Calls Tryz.prog 76 #[.string s,.int .i64 (at':Nat),.int .i64 (wd:Nat)] w fun e w'=>e = .returned (.int .u64 ((unlittle s.data.toList / 2 ^ at' % 2 ^ wd:Nat):Int)) ∧ w' = w:=by
 have hget:∀ k (h:k / 8 < s.size),s[k / 8].toNat / 2 ^ (k % 8) % 2 = unlittle s.data.toList / 2 ^ k % 2:=fun k h=>unlittle_bit _ _ _ (by rw [List.getElem?_eq_getElem (by simpa using h)];rfl)
 go_enter Tryz.func76,Tryz.ntmps76
 go_wp2
 go_loop [7,11] (fun n i=>∃ k:Nat,k ≤ wd ∧ i = .int .i64 k ∧ n = .int .u64 ((unlittle s.data.toList / 2 ^ at' % 2 ^ k:Nat):Int)) (fun _ i=>wd - (intOf i).toNat)
 case atStart=>exact ⟨0,Nat.zero_le _,rfl,by simp [Nat.mod_one]⟩
 case round =>
  obtain ⟨k,hk,rfl,rfl⟩:=hrel
  by_cases hlt:k < wd
  ·have hlt8:(at' + k) / 8 < s.size:=by omega
   have hbit:=hget (at' + k) hlt8
   have hb:=s[(at' + k) / 8].toNat_lt
   have hmore:=bits_succ (unlittle s.data.toList / 2 ^ at') k
   rw [Nat.div_div_eq_div_mul,← Nat.pow_add] at hmore
   have hX:unlittle s.data.toList / 2 ^ at' % 2 ^ k < 2 ^ k:=Nat.mod_lt _ (Nat.pow_pos (by decide))
   have Hbit:=Lib.hid hbit
   have Hmore:=Lib.hid hmore
   have HX:=Lib.hid hX
   clear hbit hmore hget hX
   go_wp2
   go_round
   case rel =>
    refine ⟨k + 1,by omega,by go_num,?_⟩
    have hp:(2:Nat) ^ k ≤ 2 ^ 32:=Nat.pow_le_pow_right (by decide) (by omega)
    have hXi:((unlittle s.data.toList:Nat):Int) / 2 ^ at' % 2 ^ k = ((unlittle s.data.toList / 2 ^ at' % 2 ^ k:Nat):Int):=by simp
    rw [Hmore.out,← Hbit.out,hXi]
    have hX:=HX.out
    generalize unlittle s.data.toList / 2 ^ at' % 2 ^ k = X at *
    generalize s[(at' + k) / 8].toNat = b at *
    exact congrArg _ (get_step X b ((at' + k) % 8) k hX hb hp)
   case measure=>simp [intOf];omega
  ·obtain rfl:k = wd:=by omega
   go_wp2
   go_ret
   exact ⟨rfl,rfl⟩
def natV (n:Nat):Value:=.int .i64 (n:Int)
theorem nums_nat {w:World} {B:Nat} {e:TypeId} {v:Value} {L:List Nat} (h:w.ownsRow B e 1 v L.length (L.map natV)):IsInts w v (ints L):=by
 refine IsNums.of_own (B:=B) (e:=e) ?_
 unfold ints
 rw [List.length_map,List.map_map]
 exact h
end Go.Proofs.YtapiabmmfmfaeaaGreatDoor
/- The walk of the document's UnpackOf; Unpack's errors. -/
namespace Go.Proofs.YtapiabmmfmfaeaaGreatDoor
set_option maxHeartbeats 2000000
set_option linter.unusedVariables false
open Go Go.RowKit Go.ChangeShapes
def natU (n:Nat):Value:=.int .u64 (n:Int)
theorem numsU_nat {w:World} {B:Nat} {e:TypeId} {v:Value} {L:List Nat} (h:w.ownsRow B e 1 v L.length (L.map natU)):IsNums .u64 w v (ints L):=by
 refine IsNums.of_own (B:=B) (e:=e) ?_
 unfold ints
 rw [List.length_map,List.map_map]
 exact h
theorem unp_step (X b e k:Nat) (hX:X < 2 ^ k) (hb:b < 256) (hp:(2:Nat) ^ k ≤ 4294967296) :
  IntKind.u64.wrap ((X:Int) + IntKind.u64.wrap ((((b:Int) / 2 ^ e)).tmod 2 * 2 ^ k)) = ((X + b / 2 ^ e % 2 * 2 ^ k:Nat):Int):=by
 have h1:b / 2 ^ e % 2 ≤ 1:=by omega
 rw [show ((b:Int) / 2 ^ e) = ((b / 2 ^ e:Nat):Int) by simp,show (((b / 2 ^ e:Nat):Int)).tmod 2 = ((b / 2 ^ e % 2:Nat):Int) from rfl]
 generalize b / 2 ^ e % 2 = t at *
 have h2:t * 2 ^ k ≤ 4294967296:=Nat.le_trans (Nat.mul_le_mul_right _ h1) (by omega)
 rw [show ((t:Int) * 2 ^ k) = ((t * 2 ^ k:Nat):Int) by rw [Int.natCast_mul,Int.natCast_pow];rfl,
  show IntKind.u64.wrap ((t * 2 ^ k:Nat):Int) = ((t * 2 ^ k:Nat):Int) by rw [IntKind.wrap_u64];omega,IntKind.wrap_u64]
 omega
set_option maxRecDepth 100000 in
theorem unpackOf_any (s:ByteArray) (wd n:Nat) (w:World) (hw:wd ≤ 32) (hn:n ≤ 20008) (hm:s.size ≤ 1000000) :
  Calls Tryz.prog 84 #[.string s,.int .i64 (wd:Nat),.int .i64 (n:Nat)] w fun e w' =>
   ((n * wd ≤ 8 * s.size ∧ ∃ u,e = .returned (.tuple #[u,.bool true]) ∧ w'.ownsRow w.heap.size 84 1 u n ((getAll (unlittle s.data.toList) wd n).map natU)) ∨ (8 * s.size < n * wd ∧ e = .returned (.tuple #[.slice none 0 0,.bool false]))) ∧ Below w.heap.size w w':=by
 obtain ⟨i0,hi,hz0,hz1,hz2⟩:=info_parts info_u64
 have hget:∀ k (h:k / 8 < s.size),s[k / 8].toNat / 2 ^ (k % 8) % 2 = unlittle s.data.toList / 2 ^ k % 2:=fun k h=>unlittle_bit _ _ _ (by rw [List.getElem?_eq_getElem (by simpa using h)];rfl)
 have hlen:=getAll_len (unlittle s.data.toList) wd
 have hsn:∀ k,getAll (unlittle s.data.toList) wd (k + 1) = getAll (unlittle s.data.toList) wd k ++ [unlittle s.data.toList / 2 ^ (k * wd) % 2 ^ wd]:=fun k=>rfl
 have Hget:=Lib.hid hget
 have Hlen:=Lib.hid hlen
 have Hsn:=Lib.hid hsn
 clear hget hlen hsn
 go_enter Tryz.func84,Tryz.ntmps84
 go_wp2_with fail
 go_loopw [8,9,10] (fun u a i wr=>∃ k:Nat,k ≤ n ∧ i = .int .i64 k ∧ a = .int .i64 ((k * wd:Nat):Int) ∧ k * wd ≤ 8 * s.size ∧ wr.ownsRow w.heap.size 84 1 u k ((getAll (unlittle s.data.toList) wd k).map natU) ∧ Below w.heap.size w wr) (fun _ _ i _=>n - (intOf i).toNat)
 case atStart=>exact ⟨0,Nat.zero_le _,rfl,by simp,by omega,World.ownsRow_nil _ _ _ _,Below.refl _ _⟩
 case round =>
  obtain ⟨k,hk,rfl,rfl,hka,hown,hb⟩:=hrel
  have Ho:=Lib.hid hown;clear hown
  by_cases hkn:k < n
  ·have hkw:(k + 1) * wd ≤ n * wd:=Nat.mul_le_mul_right _ hkn
   have h63:(getAll (unlittle s.data.toList) wd k).length + 1 ≤ maxLen:=by rw [Hlen.out];unfold maxLen;omega
   have h64:((getAll (unlittle s.data.toList) wd k).length + 1) * 8 ≤ 140737488355328:=by rw [Hlen.out];omega
   rw [Nat.add_one_mul] at hkw
   have Hkw:=Lib.hid hkw
   have hA:∃ A,A = k * wd:=⟨_,rfl⟩
   obtain ⟨A,hA⟩:=hA
   have Hg:=Lib.hid (Hsn.out k)
   have Hl:=Lib.hid (Hlen.out k)
   rw [← hA] at Hg hka Hkw ⊢
   generalize getAll (unlittle s.data.toList) wd k = L at *
   rw [← Hl.out] at Ho
   clear hkw
   have HA:=Lib.hid hA;clear hA
   go_wp2_with fail
   go_loopw [9,11,12] (fun a x j wr'=>∃ m:Nat,m ≤ wd ∧ A + m ≤ 8 * s.size ∧ j = .int .i64 m ∧ a = .int .i64 ((A + m:Nat):Int) ∧ x = .int .u64 ((unlittle s.data.toList / 2 ^ A % 2 ^ m:Nat):Int) ∧ wr' = wr) (fun _ _ j _=>wd - (intOf j).toNat)
   case atStart=>exact ⟨0,Nat.zero_le _,by omega,rfl,rfl,by simp [Nat.mod_one],rfl⟩
   case round =>
    obtain ⟨m,hm2,hA8,rfl,rfl,rfl,rfl⟩:=hrel
    by_cases hmw:m < wd
    ·by_cases hin:(A + m) / 8 < s.size
     ·have Hbit:=Lib.hid (Hget.out (A + m) hin)
      have hb8:=s[(A + m) / 8].toNat_lt
      have hmore:=bits_succ (unlittle s.data.toList / 2 ^ A) m
      rw [Nat.div_div_eq_div_mul,← Nat.pow_add] at hmore
      have Hmore:=Lib.hid hmore
      clear hmore
      go_wp2_with fail
      go_roundw
      case rel =>
       refine ⟨m + 1,by omega,by omega,by go_num,by go_num,?_,trivial⟩
       have hp:(2:Nat) ^ m ≤ 2 ^ 32:=Nat.pow_le_pow_right (by decide) (by omega)
       have hX:unlittle s.data.toList / 2 ^ A % 2 ^ m < 2 ^ m:=Nat.mod_lt _ (Nat.pow_pos (by decide))
       have hXi:((unlittle s.data.toList:Nat):Int) / 2 ^ A % 2 ^ m = ((unlittle s.data.toList / 2 ^ A % 2 ^ m:Nat):Int):=by simp
       rw [Hmore.out,← Hbit.out,hXi]
       generalize unlittle s.data.toList / 2 ^ A % 2 ^ m = X at *
       generalize s[(A + m) / 8].toNat = b at *
       rw [unp_step X b ((A + m) % 8) m hX hb8 (Nat.le_trans hp (by decide))]
      case measure=>simp [intOf];omega
     ·have hsh:8 * s.size < n * wd:=by have:=Hkw.out;omega
      go_wp2_with fail
      go_ret2
      exact ⟨.inr ⟨hsh,rfl⟩,hb⟩
    ·obtain rfl:m = wd:=by omega
     have hX:∃ X,X = unlittle s.data.toList / 2 ^ A % 2 ^ m:=⟨_,rfl⟩
     obtain ⟨X,hX⟩:=hX
     rw [← hX] at Hg ⊢
     clear hX
     go_wp2_with (at_builtin;refine wpList_push rfl _ _ 145 rfl w.heap.size 84 i0 (.int .u64 0) 8 Tryz.underlying145 hi hz0 hz1 hz2 rfl natU (fun _=>rfl) _ _ rfl Ho.out _ _ rfl h63 h64 hb.size X rfl ?_;intro v' w2 hown' hb' hnn;have Ho':=Lib.hid hown';clear hown')
     go_roundw
     case rel =>
      refine ⟨k + 1,by omega,by go_num,?_,?_,?_,hb.trans hb'⟩
      ·rw [Nat.add_one_mul,← HA.out];go_num
      ·rw [Nat.add_one_mul,← HA.out];exact hA8
      ·rw [Hg.out];have h:=Ho'.out;rwa [List.length_append,Hl.out] at h
     case measure=>simp [intOf];omega
  ·obtain rfl:k = n:=by omega
   go_wp2_with fail
   go_ret2
   exact ⟨.inl ⟨hka,_,rfl,Ho.out⟩,hb⟩
end Go.Proofs.YtapiabmmfmfaeaaGreatDoor
/- The document's numbers in up to 64 bits: the walks of bitsOf, PackOf once more. -/
namespace Go.Proofs.YtapiabmmfmfaeaaGreatDoor
set_option maxHeartbeats 2000000
set_option linter.unusedVariables false
open Go Go.RowKit Go.ChangeShapes
set_option maxRecDepth 100000 in
theorem bitsOf_any64 (v:Value) (l:List Nat) (wd:Nat) (w:World) (hI:IsNums .u64 w v (ints l)) (h1:wd ≤ 64) (h2:l.length ≤ 20000) (hg:∀ n ∈ l,n < 18446744073709551616) :
  Calls Tryz.prog 124 #[v,.int .i64 (wd:Nat)] w fun e w'=>(∃ u,e = .returned u ∧ w'.ownsRow w.heap.size 5 1 u (allBits wd l).length ((allBits wd l).map byteV)) ∧ Below w.heap.size w w':=by
 obtain ⟨ad,cap,rfl⟩:=hI.form
 have hlen:(ints l).length = l.length:=by simp [ints]
 rw [hlen]
 rw [hlen] at hI
 have Hlen:=Lib.hid hlen
 clear hlen
 obtain ⟨i0,hi,hz0,hz1,hz2⟩:=info_parts info_u8b
 go_enter Tryz.func124,Tryz.ntmps124
 go_wp2
 go_loopw [5,6] (fun u i wr=>∃ k:Nat,k ≤ l.length ∧ i = .int .i64 k ∧ wr.ownsRow w.heap.size 5 1 u (allBits wd (l.take k)).length ((allBits wd (l.take k)).map byteV) ∧ Below w.heap.size w wr) (fun _ i _=>l.length - (intOf i).toNat)
 case atStart=>exact ⟨0,Nat.zero_le _,rfl,World.ownsRow_nil _ _ _ _,Below.refl _ _⟩
 case round =>
  obtain ⟨k,hk,rfl,hown,hb⟩:=hrel
  have hI1:=hI.below hb (Nat.le_refl _)
  have Ho:=Lib.hid hown;clear hown
  by_cases hlt:k < l.length
  ·obtain ⟨b,off,rfl,hq,_,hc⟩:=hI1.at (by rw [Hlen.out];omega)
   clear hq
   have hck:=hc k l[k] (by simp [ints,List.getElem?_eq_getElem hlt])
   have g2:=hg l[k] (List.getElem_mem hlt)
   have hn:l.take (k + 1) = l.take k ++ [l[k]]:=List.take_succ_eq_append_getElem hlt
   have hlb:=allBits_len wd (l.take k)
   have hle:(l.take k).length * wd ≤ 20000 * 64:=Nat.mul_le_mul (by simp;omega) h1
   generalize l[k] = x at *
   have hsn:=allBits_snoc wd x (l.take k)
   rw [← hn] at hsn
   have Hsn:=Lib.hid hsn
   have hle2:(allBits wd (l.take k)).length ≤ 1280000:=by rw [hlb];exact hle
   have Hle2:=Lib.hid hle2
   clear hc hn hg hsn hlb hle hle2
   go_wp2
   have hle2:=Hle2.out
   generalize allBits wd (l.take k) = L at *
   go_loopw [5,7,8] (fun u n j wr'=>∃ m:Nat,m ≤ wd ∧ j = .int .i64 m ∧ n = .int .u64 ((x / 2 ^ m:Nat):Int) ∧ wr'.ownsRow w.heap.size 5 1 u (L ++ bitsL m x).length ((L ++ bitsL m x).map byteV) ∧ Below w.heap.size w wr') (fun _ _ j _=>wd - (intOf j).toNat)
   case atStart=>exact ⟨0,Nat.zero_le _,rfl,by simp,by simpa [bitsL] using Ho.out,hb⟩
   case round =>
    obtain ⟨m,hm,rfl,rfl,hown,hb2⟩:=hrel
    have Ho2:=Lib.hid hown;clear hown
    by_cases hlt2:m < wd
    ·have hd:x / 2 ^ m / 2 = x / 2 ^ (m + 1):=by rw [Nat.div_div_eq_div_mul,Nat.pow_succ]
     have Hd:=Lib.hid hd
     have hsn:=Lib.hid (bitsL_snoc m x)
     have hll:(L ++ bitsL m x).length = L.length + m:=by rw [List.length_append,bitsL_len]
     have h63:(L ++ bitsL m x).length + 1 ≤ maxLen:=by rw [hll];unfold maxLen;omega
     have h64:((L ++ bitsL m x).length + 1) * 1 ≤ 140737488355328:=by rw [hll];omega
     have hy:x / 2 ^ m < 18446744073709551616:=Nat.lt_of_le_of_lt (Nat.div_le_self _ _) g2
     clear hd hll
     generalize x / 2 ^ m = y at *
     go_wp2_with (at_builtin;refine wpList_push rfl _ _ 129 rfl w.heap.size 5 i0 (.int .u8 0) 1 Tryz.underlying129 hi hz0 hz1 hz2 rfl byteV byteV_one _ _ rfl Ho2.out _ _ rfl h63 h64 hb2.size (UInt8.ofNat (y % 2)) (byteV_ofNat (by go_num) (by omega)) ?_;intro v' w1 hown' hb' hnn;have Ho':=Lib.hid hown';clear hown')
     go_roundw
     case rel=>exact ⟨m + 1,by omega,by go_num,by rw [← Hd.out];go_num,by rw [hsn.out,← List.append_assoc];exact Ho'.out,hb2.trans hb'⟩
     case measure=>simp [intOf];omega
    ·obtain rfl:m = wd:=by omega
     go_wp2
     go_roundw
     case rel=>exact ⟨k + 1,by omega,by go_num,by rw [Hsn.out];exact Ho2.out,hb2⟩
     case measure=>simp [intOf];omega
  ·obtain rfl:k = l.length:=by omega
   rw [List.take_length] at Ho
   go_wp2
   go_ret
   exact ⟨⟨_,rfl,Ho.out⟩,hb⟩
set_option maxRecDepth 100000 in
theorem packOf_any64 (v:Value) (l:List Nat) (wd:Nat) (w:World) (hI:IsNums .u64 w v (ints l)) (h1:wd ≤ 64) (h2:l.length ≤ 20000) (hg:∀ n ∈ l,n < 2 ^ wd) :
  Calls Tryz.prog 116 #[v,.int .i64 (wd:Nat)] w fun e w'=>e = .returned (.string ⟨(packed wd l).toArray⟩) ∧ Below w.heap.size w w':=by
 have hg64:∀ n ∈ l,n < 18446744073709551616:=fun n hn=>Nat.lt_of_lt_of_le (hg n hn) (Nat.le_trans (Nat.pow_le_pow_right (by decide:2 > 0) h1) (by decide))
 go_enter Tryz.func116,Tryz.ntmps116
 go_wp2_with fail
 refine (bitsOf_any64 v l wd w hI h1 h2 hg64).mono ?_
 rintro e w0 ⟨⟨u,rfl,hown⟩,hb0⟩
 have hN:=bytes_nums hown
 have hlen:=allBits_len wd l
 have hbit:=allBits_bit wd l
 have hV:=valB_lt _ hbit
 have hget:=fun j b=>valB_get (allBits wd l) j b hbit
 have hle:(allBits wd l).length ≤ 1280000:=by rw [hlen];exact Nat.mul_le_mul h2 h1
 have hend:=packed_end wd l hg
 rw [← hlen] at hend
 clear hlen hg hg64 hI hown
 generalize allBits wd l = L at *
 obtain ⟨ad,cap,rfl⟩:=hN.form
 rw [List.length_map] at hN
 rw [List.length_map]
 go_wp2_with fail
 go_loopw [6,7] (fun o i wr=>∃ j:Nat,8 * j < L.length + 8 ∧ i = .int .i64 ((8 * j:Nat):Int) ∧ o = .string ⟨(little j (valB L)).toArray⟩ ∧ Below w0.heap.size w0 wr) (fun _ i _=>L.length + 8 - (intOf i).toNat)
 case atStart=>exact ⟨0,by omega,rfl,rfl,Below.refl _ _⟩
 case round =>
  obtain ⟨j,hj,rfl,rfl,hb⟩:=hrel
  have hN1:=hN.below hb (Nat.le_refl _)
  by_cases hlt:8 * j < L.length
  ·obtain ⟨b,off,rfl,hq,_,hc⟩:=hN1.at (by rw [List.length_map];omega)
   clear hq
   have hin:8 * j ≤ 1280000:=by omega
   have hdone:=fun k=>byte_done (valB L) j k L.length hV
   have hmore:=fun k=>bit_more (valB L) (8 * j) k
   have hsn:=little_snoc j (valB L)
   generalize hV':valB L = V at *
   have Hdone:=Lib.hid hdone
   have Hmore:=Lib.hid hmore
   have Hsn:=Lib.hid hsn
   have hI8:∃ I,I = 8 * j:=⟨_,rfl⟩
   obtain ⟨I,hI8⟩:=hI8
   rw [← hI8] at Hdone Hmore hlt hin ⊢
   have HI:=Lib.hid hI8
   clear hdone hmore hsn hI8 hV hj hV'
   go_wp2_with fail
   go_loopw [8,9] (fun c k wr'=>∃ m:Nat,m ≤ 8 ∧ I + m ≤ L.length ∧ k = .int .i64 m ∧ c = .int .i64 ((V / 2 ^ I % 2 ^ m:Nat):Int) ∧ wr' = wr) (fun _ k _=>8 - (intOf k).toNat)
   case atStart=>exact ⟨0,by omega,by omega,rfl,by simp [Nat.mod_one],rfl⟩
   case round =>
    obtain ⟨m,hm,hm2,rfl,rfl,rfl⟩:=hrel
    have hsz:=hb.size
    by_cases hin2:m < 8 ∧ I + m < L.length
    ·obtain ⟨hm8,hil⟩:=hin2
     have hck:=hc (I + m) (L[I + m].toNat:Int) (by simp [List.getElem?_eq_getElem hil])
     have hbv:=hget (I + m) L[I + m] (List.getElem?_eq_getElem hil)
     have hb2:=hbit L[I + m] (List.getElem_mem hil)
     generalize L[I + m].toNat = bt at *
     have Hm:=Lib.hid (Hmore.out m)
     rw [HI.out,← HI.out] at Hm
     have Hbv:=Lib.hid hbv
     have d1:decide ((I:Int) + (m:Int) < (L.length:Int)) = true:=by rw [decide_eq_true_iff];omega
     have hp:(2:Nat) ^ m ≤ 128:=Nat.pow_le_pow_right (by decide:2 > 0) (show m ≤ 7 by omega)
     have hmod:V / 2 ^ I % 2 ^ m < 128:=Nat.lt_of_lt_of_le (Nat.mod_lt _ (Nat.pow_pos (by decide))) hp
     have hpr:bt * 2 ^ m ≤ 128:=Nat.le_trans (Nat.mul_le_mul_right _ (show bt ≤ 1 by omega)) (by omega)
     have hpi:((bt:Int) * 2 ^ m) = ((bt * 2 ^ m:Nat):Int):=by rw [Int.natCast_mul,Int.natCast_pow];rfl
     generalize V / 2 ^ I % 2 ^ m = c at *
     have hw1:IntKind.i64.wrap ((bt:Int) * 2 ^ m) = ((bt * 2 ^ m:Nat):Int):=by rw [hpi];exact wrap_small _ (by omega) (by omega)
     have Hpi:=Lib.hid hpi
     clear hbv hpi hp hget hc
     go_wp2_with fail
     go_roundw
     case rel =>
      refine ⟨m + 1,by omega,by omega,by go_num,?_,trivial⟩
      rw [Hm.out,Hbv.out,Hpi.out]
      exact congrArg _ (by rw [wrap64_small _ (by omega) (by omega),Int.natCast_add])
     case measure=>simp [intOf];omega
    ·have hv:V / 2 ^ I % 2 ^ m = V / 256 ^ j % 256:=Hdone.out m hm (by omega)
     have hcc:V / 256 ^ j % 256 < 256:=Nat.mod_lt _ (by decide)
     have hHI:=HI.out
     clear hget hc hbit
     have hgo:∃ c:Nat,c = V / 2 ^ I % 2 ^ m:=⟨_,rfl⟩
     obtain ⟨c,hcv⟩:=hgo
     rw [← hcv] at hv ⊢
     have Hv:=Lib.hid hv
     clear hcv hv
     have Hhi:=Lib.hid hHI
     have hll:=little_len j V
     have hj2:j ≤ 160000:=by omega
     clear hHI
     by_cases hm8:m < 8
     focus
      have d1:decide ((I:Int) + (m:Int) < (L.length:Int)) = false:=by rw [decide_eq_false_iff_not];omega
      clear hin2
     rotate_left
     focus
      have d1:True:=trivial
      clear hin2
     all_goals
      go_wp2_with (go_at_call 118;refine (byte_any _ _).mono ?_;rintro e w1 ⟨rfl,hb1⟩)
      go_roundw
      case rel =>
       refine ⟨j + 1,by have:=Hhi.out;omega,by rw [Hhi.out];go_num,?_,below_trans hb hb1⟩
       rw [Hsn.out]
       rw [ByteArray.mk_append_mk _ [_]]
       have h3:=Hv.out
       rw [← h3,show c % 256 = c by omega]
      case measure=>have:=Hhi.out;simp [intOf];omega
  ·have h3:=hend j (by omega) hj
   have H3:=Lib.hid h3
   clear hget hend h3
   go_wp2_with fail
   go_ret
   refine ⟨ret_of (by rw [← H3.out];rfl),below_trans hb0 hb⟩
end Go.Proofs.YtapiabmmfmfaeaaGreatDoor
