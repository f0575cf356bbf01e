/- Merged texts: RunsW1, Zeros, RunsW2. -/
import Derived.Test.YtapiabmmfmfaeaaGreatDoorMBits
import Derived.Test.YtapiabmmfmfaeaaGreatDoorMEnc
import Derived.Test.YtapiabmmfmfaeaaGreatDoorMPlain
import Derived.Deep.RegionHeld3
import Derived.WalkKit
import Derived.Lib.Builder
import Derived.Lib.AppendZerosOnto
/- The walks of bitrun.number and of the closure in bitrun.Runs. -/
namespace Go.Proofs.YtapiabmmfmfaeaaGreatDoor
set_option maxHeartbeats 4000000
set_option linter.unusedVariables false
open Go Go.RowKit Go.ChangeShapes
set_option maxRecDepth 100000 in
theorem number_any (n wd:Nat) (hw:wd ≤ 32) (hn:n < 2 ^ wd) (w:World) :
  Calls Tryz.prog 101 #[.int .i64 (n:Nat),.int .i64 (wd:Nat)] w fun e w'=>e = .returned (.string ⟨(little (sizeB wd) n).toArray⟩) ∧ Below w.heap.size w w':=by
 have hsz:sizeB wd ≤ 4:=by unfold sizeB;omega
 have hn32:n < 4294967297:=Nat.lt_of_lt_of_le hn (Nat.le_trans (Nat.pow_le_pow_right (by decide:2 > 0) hw) (by decide))
 have hs1:∀ w1,Calls Tryz.prog 75 #[.int .i64 1,.int .i64 (wd:Nat)] w1 fun e w'=>e = .returned (.int .i64 ((sizeB wd:Nat):Int)) ∧ w' = w1:=by
  intro w1
  refine (size_any 1 wd (by omega) hw w1).mono ?_
  rintro e w2 ⟨rfl,rfl⟩
  exact ⟨by rw [Nat.one_mul];rfl,rfl⟩
 have hfit:n < 256 ^ (max 1 (sizeB wd)):=by
  rw [← pow256]
  exact Nat.lt_of_lt_of_le hn (Nat.pow_le_pow_right (by decide) (by unfold sizeB;omega))
 have hmax:max (1:Int) ((sizeB wd:Nat):Int) = ((max 1 (sizeB wd):Nat):Int):=by omega
 have hc:IntKind.u64.wrap ((n:Nat):Int) = ((n:Nat):Int):=by rw [IntKind.wrap_u64];omega
 have hle:sizeB wd ≤ max 1 (sizeB wd):=by omega
 have hm1:1 ≤ max 1 (sizeB wd):=by omega
 have hm8:max 1 (sizeB wd) ≤ 8:=by omega
 have htk:(little (max 1 (sizeB wd)) n).take (sizeB wd) = little (sizeB wd) n:=by
  rcases Nat.eq_zero_or_pos (sizeB wd) with h | h
  ·rw [h];rfl
  ·rw [show max 1 (sizeB wd) = sizeB wd by omega,List.take_of_length_le (by rw [little_len];omega)]
 clear hn
 generalize sizeB wd = z at *
 generalize hmm:max 1 z = m at *
 have hll:=little_len m n
 have Hll:=Lib.hid hll;clear hll
 have Hmm:=Lib.hid hmm;clear hmm
 go_enter Tryz.func101,Tryz.ntmps101
 go_wp2_with fail
 refine (hs1 _).mono ?_;rintro e w1 ⟨rfl,rfl⟩
 go_wp2_with fail
 refine (fixed_ok n m _ (by omega) hm1 hm8 hfit).mono ?_;rintro e w1 ⟨rfl,hb1⟩
 go_wp2_with fail
 refine (hs1 _).mono ?_;rintro e w2 ⟨rfl,rfl⟩
 have hsize:(ByteArray.mk (little m n).toArray).size = m:=by show (little m n).toArray.size = _;simp [Hll.out]
 go_wp2_with fail
 go_ret
 refine ⟨ret_of ?_,hb1⟩
 rw [ba_extract]
 simp only [List.drop_zero,Nat.sub_zero]
 rw [← htk]
 rfl
def OpenAt (B o:Nat) (l:List Nat) (w:World):Prop:=B ≤ o ∧ ∃ v,w.heap[o]? = some (.cells #[v] 22 (0,0)) ∧ w.ownsRow B 3 1 v l.length (l.map natV) ∧ v.ownBlock ≠ some o
theorem ints_good (wd:Nat) (l:List Nat) (h:∀ x ∈ l,x < 2 ^ wd):∀ x ∈ ints l,Good wd x:=by
 intro x hx
 obtain ⟨n,hn,rfl⟩:=List.mem_map.1 hx
 have:=h n hn
 exact ⟨by omega,by exact_mod_cast this⟩
theorem nats_of_ints (l:List Nat):nats (ints l) = l:=by
 unfold nats ints
 rw [List.map_map]
 conv=>rhs;rw [← List.map_id l]
 exact List.map_congr_left (fun x _=>by simp)
theorem OpenAt.kept {B o:Nat} {l:List Nat} {w w':World} {e:TypeId} {b:Option Nat} (h:OpenAt B o l w) (hk:Lib.OthersKept e b w w') (he:e ≠ 22) (he2:e ≠ 3)
  (hob:∀ k cs fz T,w.heap[k]? = some (.cells cs T fz) → (T = 22 ∨ T = 3) → some k ≠ b):OpenAt B o l w':=by
 obtain ⟨hB,v,hbk,hown,hne⟩:=h
 refine ⟨hB,v,hk _ _ hbk (hob _ _ _ _ hbk (.inl rfl)) (fun c fz hc=>he (by injection hc with _ h2 _;exact h2.symm)),⟨hown.1,?_⟩,hne⟩
 rcases hown.2 with h1 | ⟨g,cap,cur,hv,h1,h2,h3⟩
 ·exact .inl h1
 ·exact .inr ⟨g,cap,cur,hv,h1,hk _ _ h2 (hob _ _ _ _ h2 (.inr rfl)) (fun c fz hc=>he2 (by injection hc with _ h2 _;exact h2.symm)),h3⟩
theorem OpenAt.below {B o:Nat} {l:List Nat} {w w':World} (h:OpenAt B o l w) (hb:Below w.heap.size w w'):OpenAt B o l w' :=
 h.kept (e:=5) (b:=none) (others_of_below hb) (by decide) (by decide) (fun _ _ _ _ _ _=>by simp)
theorem BuildAt.block {B b:Nat} {l:List UInt8} {w:World} (h:BuildAt B b l w):B ≤ b ∧ ∃ p v,w.heap[b]? = some (.cells #[p,v] 170 (0,0)):=by
 rcases h with ⟨hB,v,hb,_⟩ | ⟨hB,v,hb,_⟩ <;> exact ⟨hB,_,v,hb⟩
theorem BuildAt.ne {B b k:Nat} {l:List UInt8} {w:World} {cs:Array Value} {T:TypeId} {fz:Nat × Nat} (h:BuildAt B b l w) (hk:w.heap[k]? = some (.cells cs T fz)) (hT:T = 22 ∨ T = 3):some k ≠ some b:=by
 obtain ⟨_,p,v,hbk⟩:=h.block
 intro hkb
 injection hkb with hkb
 subst hkb
 rw [hbk] at hk
 injection hk with hk
 injection hk with _ h2 _
 subst h2
 revert hT
 decide
theorem OpenAt.written {B o b:Nat} {l:List Nat} {t:List UInt8} {w w':World} (h:OpenAt B o l w) (hb:BuildAt B b t w) (hk:Lib.OthersKept 5 (some b) w w'):OpenAt B o l w':=by
 exact h.kept hk (by decide) (by decide) fun k cs fz T hh hT=>hb.ne hh hT
set_option maxRecDepth 100000 in
theorem shut_any (B b o p wd : Nat) (l : List UInt8) (op : List Nat) (w : World) (hb : BuildAt B b l w) (ho : OpenAt B o op w) (hw : w.cell? ⟨p, 0, none⟩ = some (.int .i64 (wd : Nat))) (hp : p < B) (hB : B ≤ w.heap.size) (h1 : wd ≤ 32) (h2 : op.length ≤ 1100) (h8 : op.length % 8 = 0)
    (hg : ∀ x ∈ op, x < 2 ^ wd) (hl : l.length ≤ 1000000) :
    Calls Tryz.prog 98 #[.pointer (some ⟨o, 0, none⟩), .pointer (some ⟨b, 0, none⟩), .pointer (some ⟨p, 0, none⟩)] w fun e w' => e = .returned (.tuple #[]) ∧ BuildAt B b (l ++ flush wd op) w' ∧ OpenAt B o [] w' ∧ Below B w w' := by
  obtain ⟨hBo, v, hbk, hown, hne⟩ := ho
  have c0 : w.cell? ⟨o, 0, none⟩ = some v := by rw [Lib.cell_of_heap hbk]; rfl
  have f0 : w.frozen? ⟨o, 0, none⟩ = false := Lib.frozen_of_heap hbk 0
  have hI := nums_nat hown
  by_cases h0 : op = []
  · subst h0
    obtain ⟨ad, cap, rfl⟩ := hI.form
    go_enter Tryz.func98, Tryz.ntmps98
    go_wp2_with fail
    go_end0
    exact ⟨rfl, by simpa [flush_nil] using hb, ⟨hBo, _, hbk, hown, hne⟩, Below.refl _ _⟩
  · have hpos : 0 < op.length := List.length_pos_iff.2 h0
    obtain ⟨ad, cap, rfl⟩ := hI.form
    have hil : (ints op).length = op.length := by simp [ints]
    have hgi := ints_good wd op hg
    have hni := nats_of_ints op
    have hfl := flush_cons wd h0
    have hw2 : w.drew.heap.size = w.heap.size := rfl
    clear hil
    have hil : (ints op).length = op.length := by simp [ints]
    rw [hil] at c0 hbk hown hne hI
    clear hil hw2
    have dpos : decide ((0 : Int) < (op.length : Int)) = true := by simp; omega
    obtain ⟨q, hq⟩ : ∃ q, op.length = 8 * q := ⟨op.length / 8, by omega⟩
    rw [show op.length / 8 = q by omega] at hfl
    have Hq := Lib.hid hq
    clear hq
    have hor : bits .or .u64 (IntKind.u64.wrap (IntKind.u64.wrap (IntKind.i64.wrap ((op.length : Int) / 8)) * 2)) 1 = ((2 * q + 1 : Nat) : Int) := by
      have hq8 := Hq.out
      have e1 : ((op.length : Int) / 8) = ((q : Nat) : Int) := by omega
      have e2 : IntKind.i64.wrap ((q : Nat) : Int) = ((q : Nat) : Int) := wrap_small _ (by omega) (by omega)
      have e3 : IntKind.u64.wrap ((q : Nat) : Int) = ((q : Nat) : Int) := by rw [IntKind.wrap_u64]; omega
      have e4 : IntKind.u64.wrap (((q : Nat) : Int) * 2) = ((2 * q : Nat) : Int) := by rw [IntKind.wrap_u64]; omega
      rw [e1, e2, e3, e4, show (1 : Int) = ((1 : Nat) : Int) from rfl, u64_or_nat _ _ (by omega) (by decide)]
      have h2 := Nat.two_pow_add_eq_or_of_lt (i := 1) (b := 1) (by decide) q
      rw [Nat.pow_one] at h2
      rw [← h2]
    have Hor := Lib.hid hor
    clear hor
    have hs7 := seven_len (show 2 * q + 1 < 18446744073709551616 by have := Hq.out; omega)
    have hpl : (packed wd op).length ≤ 4 * op.length + 1 := by
      rw [packed, bytesOf_len]
      have : op.length * wd ≤ op.length * 32 := Nat.mul_le_mul_left _ h1
      omega
    have hU : ∀ w1, Calls Tryz.prog 72 #[.int .u64 ((2 * q + 1 : Nat) : Int)] w1 fun e w' => e = .returned (.string ⟨(seven (2 * q + 1)).toArray⟩) ∧ Below w1.heap.size w1 w' := fun w1 => uvarint_any _ _ (by omega) (by have := Hq.out; omega)
    have hP : ∀ w1, Below w.heap.size w w1 → Calls Tryz.prog 100 #[.slice ad op.length cap, .int .i64 (wd : Nat)] w1 fun e w' => e = .returned (.string ⟨(packed wd op).toArray⟩) ∧ Below w1.heap.size w1 w' := by
      intro w1 hb1
      have := pack_any _ (ints op) wd w1 (hI.below hb1 (Nat.le_refl _)) h1 (by simp [ints]; omega) hgi
      rwa [hni] at this
    rw [hfl]
    clear hfl hni hgi hg
    generalize seven (2 * q + 1) = s7 at *
    generalize packed wd op = pk at *
    have HB := Lib.hid hb
    have Hbk := Lib.hid hbk
    have HO := Lib.hid (show OpenAt B o op w from ⟨hBo, _, hbk, hown, hne⟩)
    have HU := Lib.hid hU
    have HP := Lib.hid hP
    clear hb hown hne hbk hU hP hI
    have hlt : o < w.heap.size := by
      obtain ⟨_, _, h, _⟩ := HO.out
      exact (Array.getElem?_eq_some_iff.1 h).1
    have hdr : w.heap.size = w.drew.heap.size := rfl
    have hadd : ¬ 9223372036854775807 < s7.length + pk.length := by omega
    go_enter Tryz.func98, Tryz.ntmps98
    go_wp2_with fail
    go_region_held3 (fun w' => w'.cell? ⟨o, 0, none⟩ = some (.slice ad op.length cap) ∧ w'.cell? ⟨p, 0, none⟩ = some (.int .i64 (wd : Nat)))
      (first | exact ⟨c0, hw⟩ | exact ⟨c01, hw1⟩ | exact ⟨c02, hw2⟩ | exact ⟨c03, hw3⟩)
      (first
      | (go_at_call 72; rw [Hor.out]; refine (HU.out _).mono ?_; rintro e w1 ⟨rfl, hb1⟩
         have hb1 : Below w.heap.size w w1 := (Below.refl w.heap.size w).drew.trans (hb1.mono (Nat.le_of_eq hdr))
         have c01 : w1.cell? ⟨o, 0, none⟩ = some (.slice ad op.length cap) := (hb1.cell (p := ⟨o, 0, none⟩) hlt).trans c0
         have hw1 : w1.cell? ⟨p, 0, none⟩ = some (.int .i64 (wd : Nat)) := (hb1.cell (p := ⟨p, 0, none⟩) (Nat.lt_of_lt_of_le hp hB)).trans hw)
      | (go_at_call 100; refine (HP.out w1 hb1).mono ?_; rintro e w2 ⟨rfl, hb2⟩
         have hb2 := below_trans hb1 hb2
         have c02 : w2.cell? ⟨o, 0, none⟩ = some (.slice ad op.length cap) := (hb2.cell (p := ⟨o, 0, none⟩) hlt).trans c0
         have hw2 : w2.cell? ⟨p, 0, none⟩ = some (.int .i64 (wd : Nat)) := (hb2.cell (p := ⟨p, 0, none⟩) (Nat.lt_of_lt_of_le hp hB)).trans hw)
      | (go_at_call 99
         have hB2 := HB.out.below hb2
         rw [show (ByteArray.mk s7.toArray ++ ByteArray.mk pk.toArray) = ⟨(s7 ++ pk).toArray⟩ from ByteArray.mk_append_mk _ _]
         refine (writeString_any B b l (s7 ++ pk) w2 hB2 (by rw [List.length_append]; omega) (by have := hb2.size; omega)).mono ?_; rintro e w3 ⟨rfl, hB3, hb3, hk3⟩
         have hbk3 := hk3 o _ ((hb2.block o hlt).trans Hbk.out) (hB2.ne ((hb2.block o hlt).trans Hbk.out) (.inl rfl)) (fun c fz h => by injection h with _ h2 _; revert h2; decide)
         have c03 : w3.cell? ⟨o, 0, none⟩ = some (.slice ad op.length cap) := by rw [Lib.cell_of_heap hbk3]; rfl
         have f03 : w3.frozen? ⟨o, 0, none⟩ = false := Lib.frozen_of_heap hbk3 0
         have hw3 : w3.cell? ⟨p, 0, none⟩ = some (.int .i64 (wd : Nat)) := (hb3.cell (p := ⟨p, 0, none⟩) hp).trans hw2))
    go_wp2_with fail
    go_end0
    refine ⟨rfl, ?_, ?_, ?_⟩
    · refine hB3.kept (e := 3) (o := some o) ((Lib.OthersKept.refl _ _ _).setCell ⟨o, 0, none⟩ rfl _) (by decide) (by decide) ?_
      intro k cs fz T hh hT hko
      injection hko with hko
      subst hko
      rw [hbk3] at hh
      injection hh with hh
      injection hh with _ h2 _
      subst h2
      revert hT
      decide
    · exact ⟨hBo, .slice none 0 0, by rw [heap_setCell_same _ _ _ _ _ _ hbk3]; rfl, World.ownsRow_nil _ _ _ _, by simp [Value.ownBlock]⟩
    · exact ((hb2.mono hB).trans hb3).setCell (p := ⟨o, 0, none⟩) hBo _
end Go.Proofs.YtapiabmmfmfaeaaGreatDoor
/- append(s, make([]T, k)...) on the call's own slice: a law of no program. -/
namespace Go.Proofs.YtapiabmmfmfaeaaGreatDoor
set_option maxHeartbeats 4000000
set_option linter.unusedVariables false
open Go Go.RowKit
theorem zeroCells_one (z:Value) (k:Nat):(Builtin.zeroCells #[z] k).toList = List.replicate k z:=by
 apply List.ext_getElem
 ·simp [Builtin.zeroCells]
 ·intro j h1 h2
  simp [Builtin.zeroCells,Nat.mod_one]
theorem run_append_own_zeros {P:Program} (w:World) (base:Nat) (t tn ty e:TypeId) (i:TypeInfo) (z:Value) (bytes:Nat) (kq kn:IntKind) (ht:P.underlying t = some (.slice e)) (htn:P.underlying tn = some (.int kn)) (hi:P.info? e = some i) (hz:i.zero = some z)
  (hsize:i.size = 1) (hby:i.bytes = bytes) (hzc:z.cells = #[z]) (hz1:z.oneCell' = true)
  (v:Value) (n:Nat) (xs:List Value) (hown:w.ownsRow base e 1 v n xs) (k:Nat)
  (h63:n + k ≤ maxLen) (hbytes:(n + k) * bytes ≤ 140737488355328) (hbase:base ≤ w.heap.size) :
  ∃ v' w',(Builtin.append_ #[t,tn] ty #[v,.int kq (k:Nat)]).run P w = .ok v' w' ∧ w'.ownsRow base e 1 v' (n + k) (xs ++ List.replicate k z) ∧ w.grownBy w' v.ownBlock:=by
 subst hby
 have hsmall:n + k ≤ 9223372036854775807:=by simp only [maxLen] at h63;omega
 have hlx:xs.length = n:=by simpa using hown.1
 have hlen:(xs ++ List.replicate k z).length = (n + k) * 1:=by rw [List.length_append,hlx,List.length_replicate,Nat.mul_one]
 have hkb:k * i.bytes ≤ 140737488355328:=Nat.le_trans (Nat.mul_le_mul_right _ (by omega)) hbytes
 have hw:IntKind.i64.wrap (k:Int) = k:=by rw [IntKind.wrap_i64];omega
 have hneg:¬ ((k:Int) < 0):=by omega
 have h48i:¬ (281474976710656 < (k:Int) * (i.bytes:Int)):=by
  rw [← Int.natCast_mul];omega
 have grown:∀ (old:Nat),∀ (row:Option Nat),
   (w.drew.alloc (.cells (xs.toArray ++ Builtin.zeroCells z.cells k ++ Builtin.zeroCells z.cells (grownCap w (n + k) old e - (n + k))) e)).ownsRow base e 1
    (.slice (some ⟨w.heap.size,0,none⟩) (n + k) (grownCap w (n + k) old e)) (n + k) (xs ++ List.replicate k z) ∧
   w.grownBy (w.drew.alloc (.cells (xs.toArray ++ Builtin.zeroCells z.cells k ++ Builtin.zeroCells z.cells (grownCap w (n + k) old e - (n + k))) e)) row:=by
  intro old row
  have hge:=grownCap_ge w (n + k) old e
  have hcm:grownCap w (n + k) old e ≤ maxLen:=grownCap_le_maxLen w (n + k) old e h63
  refine ⟨⟨hlen,.inr ⟨w.heap.size,_,_,rfl,hbase,heap_alloc_new w.drew _,hge,hcm,?_,?_⟩⟩,⟨rfl,rfl,rfl,by simp,fun k hk _=>Lib.alloc_old w.drew _ k hk⟩⟩
  ·simp only [Array.size_append,List.size_toArray,size_zeroCells,hzc,hlx]
   simp
   omega
  ·simp only [Array.toList_append,hzc,zeroCells_one]
   rw [← hlen]
   exact List.take_left
 rcases hown.2 with ⟨rfl,rfl⟩ | ⟨g,cap,cur,rfl,hbg,hg,hnc,hcm,hcs,htake⟩
 ·have hx:xs = []:=List.eq_nil_of_length_eq_zero hlx
  subst hx
  by_cases hk:k = 0
  ·subst hk
   refine ⟨.slice none 0 0,w,?_,by simpa using World.ownsRow_nil w base e 1,⟨rfl,rfl,rfl,Nat.le_refl _,fun _ _ _=>rfl⟩⟩
   simp [Builtin.append_,run_underlying ht,run_underlying htn,sizeOf,typeInfo,hi,asInt,asIntOf,IntKind.wrap_i64]
  ·have hr:=Lib.run_append_nil_zeros (P:=P) w t tn ty e i z kq kn ht htn hi hz k (by omega) (by omega) (by omega) (by omega)
   have hgr:=grown 0 (Value.ownBlock (.slice none 0 0))
   simp only [Nat.zero_add,List.nil_append,Array.empty_append] at hgr ⊢
   exact ⟨_,_,hr,hgr.1,hgr.2⟩
 ·have hcs:cur.size = cap:=by omega
  have htake:cur.toList.take n = xs:=by simpa using htake
  by_cases hroom:n + k ≤ cap
  ·by_cases hk:k = 0
   ·subst hk
    refine ⟨.slice (some ⟨g,0,none⟩) n cap,w,?_,by simpa using hown,⟨rfl,rfl,rfl,Nat.le_refl _,fun _ _ _=>rfl⟩⟩
    simp [Builtin.append_,run_underlying ht,run_underlying htn,sizeOf,typeInfo,hi,asInt,asIntOf,IntKind.wrap_i64,hnc,storeCells]
   ·have hst:=run_storeCells_at P g (n * 1) e (List.replicate k z) 0 cur w hg (by simp;omega) (by intro u hu;rw [(List.mem_replicate.1 hu).2];exact hz1)
    simp only [Nat.add_zero,Nat.mul_one,List.length_replicate] at hst
    refine ⟨.slice (some ⟨g,0,none⟩) (n + k) cap,_,?_,⟨hlen,.inr ⟨g,cap,_,rfl,hbg,setRow_heap w g cur (cur.toList.take n ++ List.replicate k z ++ cur.toList.drop (n + k)).toArray e _ hg,hroom,hcm,?_,?_⟩⟩,⟨rfl,rfl,rfl,by simp,fun k _ hk=>setRow_other w g k _ (fun e=>hk (by simp [Value.ownBlock,e]))⟩⟩
    ·simp [Builtin.append_,run_underlying ht,run_underlying htn,sizeOf,typeInfo,zeroValue,hi,hz,asInt,asIntOf,hw,hroom,hneg,h48i,hsize,hk,Addr.add_lit,hzc,zeroCells_one,hst]
    ·simp;omega
    ·rw [htake,← hlen]
     exact List.take_left
  ·have hk:0 < k:=by omega
   have holds:(Builtin.firstCells i.size n (.slice (some ⟨g,0,none⟩) n cap)).run P w.drew = .ok xs.toArray w.drew:=by
    refine run_firstCells_some (P:=P) w.drew i.size n ⟨g,0,none⟩ n cap xs (by rw [hlx,hsize,Nat.mul_one]) ?_
    exact hown.cells (g:=g) rfl
   have hr:=Lib.run_append_grow_zeros (P:=P) w t tn ty e i z kq kn ht htn hi hz (some ⟨g,0,none⟩) n cap xs holds k hk (by omega) (by omega) (by omega) (by omega) (growslice_fits (by omega) hbytes)
   have hgr:=grown cap (Value.ownBlock (.slice (some ⟨g,0,none⟩) n cap))
   exact ⟨_,_,hr,hgr.1,hgr.2⟩
theorem wpList_append_own_zeros {P:Program} {w:World} {ops:Array Oper} {rest:List Oper} {o:Oper} {a:Act} {Q:Exit → Act → World → Prop} (hgd:o.guard = none) (s x:Operand) (t tn:TypeId)
  (ho:o.op = .call { callee:=.builtin .append,args:=#[s,x],argTypes:=#[t,tn] })
  (base:Nat) (e:TypeId) (i:TypeInfo) (z:Value) (bytes:Nat) (kq kn:IntKind) (ht:P.underlying t = some (.slice e)) (htn:P.underlying tn = some (.int kn)) (hi:P.info? e = some i) (hz:i.zero = some z)
  (hsize:i.size = 1) (hby:i.bytes = bytes) (hzc:z.cells = #[z]) (hz1:z.oneCell' = true)
  (v:Value) (n:Nat) (xs:List Value) (hs:a.eval s = v) (hown:w.ownsRow base e 1 v n xs) (k:Nat) (hx:a.eval x = .int kq (k:Nat))
  (h63:n + k ≤ maxLen) (hbytes:(n + k) * bytes ≤ 140737488355328) (hbase:base ≤ w.heap.size)
  (h:∀ v' w',w'.ownsRow base e 1 v' (n + k) (xs ++ List.replicate k z) → w.grownBy w' v.ownBlock → wpList P ops Q rest (a.put o.dst v') w'):wpList P ops Q (o :: rest) a w:=by
 obtain ⟨v',w',hr,h2,h3⟩:=run_append_own_zeros (P:=P) w base t tn o.type e i z bytes kq kn ht htn hi hz hsize hby hzc hz1 v n xs hown k h63 hbytes hbase
 exact Lib.wpList_append_run w hgd s x t tn ho v _ hs hx v' w' hr (h v' w' h2 h3)
end Go.Proofs.YtapiabmmfmfaeaaGreatDoor
/- The walk of bitrun.Runs. -/
namespace Go.Proofs.YtapiabmmfmfaeaaGreatDoor
set_option maxHeartbeats 4000000
set_option linter.unusedVariables false
open Go Go.RowKit Go.ChangeShapes
def Capped (v:Value):Prop:=∀ ad n cap,v = .slice ad n cap → n ≤ cap
def lenV:Value → Nat
 | .slice _ n _=>n
 | _=>0
theorem IsNums.sub {K:IntKind} {w:World} {b off:Nat} {l:List Int} (hlt:b < w.heap.size) (hc:∀ j x,l[j]? = some x → w.cell? ⟨b,off + j,none⟩ = some (.int K x)) (j n' cap':Nat) (hn:n' = l.length - j) :
  IsNums K w (.slice (some ⟨b,off + j,none⟩) n' cap') (l.drop j):=by
 by_cases h:l.drop j = []
 ·have:=congrArg List.length h
  rw [List.length_drop,List.length_nil] at this
  exact .inl ⟨h,_,_,by rw [hn,this]⟩
 ·refine .inr ⟨b,off + j,cap',by rw [List.length_drop,hn],hlt,fun i x hi=>?_⟩
  rw [List.getElem?_drop] at hi
  have:=hc (j + i) x hi
  rwa [← Nat.add_assoc] at this
theorem IsNums.sub' {K:IntKind} {w:World} {b off cap:Nat} {l:List Int} (hlt:b < w.heap.size) (hc:∀ j x,l[j]? = some x → w.cell? ⟨b,off + j,none⟩ = some (.int K x)) (j n:Nat) (hn:n = l.length) (hcap:n ≤ cap) (hj:j ≤ n) :
  IsNums K w (.slice (if cap = j then some ⟨b,off,none⟩ else some ⟨b,off + j,none⟩) (n - j) (cap - j)) (l.drop j):=by
 split
 ·exact .inl ⟨List.drop_eq_nil_of_le (by omega),_,_,by rw [show n - j = 0 by omega]⟩
 ·exact IsNums.sub hlt hc j _ _ (by rw [hn])
theorem Capped.sub {ad:Option Addr} {n cap j:Nat} (h:n ≤ cap):Capped (.slice ad (n - j) (cap - j)):=by
 intro a' n' c' he
 injection he with _ h2 h3
 omega
theorem ints_drop (L:List Nat) (j:Nat):ints (L.drop j) = (ints L).drop j:=List.map_drop
theorem own_pos {w:World} {B n:Nat} {e:TypeId} {v:Value} {xs:List Value} (hn:0 < n) (h:w.ownsRow B e 1 v n xs):∃ g cap,v = .slice (some ⟨g,0,none⟩) n cap:=by
 rcases h.2 with ⟨_,h0⟩ | ⟨g,cap,cur,hv,_⟩
 ·omega
 ·exact ⟨g,cap,hv⟩
theorem pad_eq (a:Nat) (R:List Nat) (m:Nat) (hm:m = min 8 (a :: R).length):(a :: R).take m ++ List.replicate (8 - m) 0 = pad8 (a :: R):=by
 subst hm
 unfold pad8
 rcases Nat.le_total 8 (a :: R).length with h | h
 ·rw [Nat.min_eq_left h,show 8 - (a :: R).length = 8 - 8 by omega]
 ·rw [Nat.min_eq_right h,List.take_of_length_le (Nat.le_refl _),List.take_of_length_le h]
theorem open_step {B o b n:Nat} {op':List Nat} {bs:List UInt8} {w w5:World} {vo v':Value} {xs:List Value} (hBo:B ≤ o) (hbk:w.heap[o]? = some (.cells #[vo] 22 (0,0))) (hown:w.ownsRow B 3 1 vo n xs)
  (hg:w.grownBy w5 vo.ownBlock) (hown5:w5.ownsRow B 3 1 v' op'.length (op'.map natV)) (hBd:BuildAt B b bs w) (hBw:B ≤ w.heap.size) :
  w5.heap[o]? = some (.cells #[vo] 22 (0,0)) ∧ OpenAt B o op' (w5.setCell ⟨o,0,none⟩ v') ∧ BuildAt B b bs (w5.setCell ⟨o,0,none⟩ v') ∧ Below B w (w5.setCell ⟨o,0,none⟩ v') ∧
   (w5.setCell ⟨o,0,none⟩ v').heap[o]? = some (.cells #[v'] 22 (0,0)) ∧ (w5.setCell ⟨o,0,none⟩ v').ownsRow B 3 1 v' op'.length (op'.map natV):=by
 have hne:=Lib.ownBlock_ne hown hbk (by decide)
 have hlt:o < w.heap.size:=(Array.getElem?_eq_some_iff.1 hbk).1
 have hbk5:w5.heap[o]? = some (.cells #[vo] 22 (0,0)):=(hg.block o hlt (fun e=>hne e.symm)).trans hbk
 have hne5:=Lib.ownBlock_ne hown5 hbk5 (by decide)
 have hbk6:(w5.setCell ⟨o,0,none⟩ v').heap[o]? = some (.cells #[v'] 22 (0,0)):=by rw [heap_setCell_same _ _ _ _ _ _ hbk5];rfl
 have hown6:(w5.setCell ⟨o,0,none⟩ v').ownsRow B 3 1 v' op'.length (op'.map natV) :=
  hown5.kept (row:=some o) ⟨rfl,rfl,rfl,by simp [World.setCell],fun k _ hk=>Below.heap_setCell _ _ _ _ (fun e:k = o=>hk (by rw [e]))⟩ (Or.inr hne5)
 refine ⟨hbk5,⟨hBo,v',hbk6,hown6,hne5⟩,?_,((Below.refl B w).grown hg hBw (fun k hk=>(hown.lt k hk).1)).setCell (p:=⟨o,0,none⟩) hBo _,hbk6,hown6⟩
 refine hBd.kept (e:=3) (o:=some o) (((Lib.OthersKept.refl _ _ w).grown hg ?_).setCell ⟨o,0,none⟩ rfl _) (by decide) (by decide) ?_
 ·intro g hgg
  rcases hown.2 with ⟨rfl,_⟩ | ⟨g',cap,cur,rfl,_,hh,_⟩
  ·cases hgg
  ·injection hgg with hgg;subst hgg;exact ⟨cur,(0,0),hh⟩
 ·intro k cs fz T hh hT hko
  injection hko with hko
  subst hko
  rw [hbk] at hh
  injection hh with hh
  injection hh with _ h2 _
  subst h2
  revert hT
  decide
set_option maxRecDepth 100000 in
theorem runs_any (v : Value) (L : List Nat) (wd : Nat) (w : World) (hI : IsInts w v (ints L)) (hcap : Capped v) (h1 : wd ≤ 32) (h2 : L.length ≤ 1000) (hg : ∀ x ∈ L, x < 2 ^ wd) :
    Calls Tryz.prog 67 #[v, .int .i64 (wd : Nat)] w fun e w' => e = .returned (.tuple #[.string ⟨(runsB wd L []).toArray⟩, .nilIface]) ∧ Below w.heap.size w w' := by
  have hgi := ints_good wd L hg
  have hlen := runsB_len wd h1 _ L [] rfl (by simp; omega)
  have hmf : ∀ (fn : Fn) (first cap : Array Value) (w : World), (Instr.makeFunc fn first cap).run Tryz.prog w = .ok (.func fn first cap) w := fun _ _ _ _ => rfl
  go_enter Tryz.func67, Tryz.ntmps67
  go_wp2_with fail
  refine (check_ok v (ints L) wd _ (hI.below ((Below.refl _ _).alloc (Nat.le_refl _) _) (Nat.le_refl _)) h1 (by simp [ints]; omega) hgi).mono ?_
  rintro e w2 ⟨rfl, hb2⟩
  have hp2 : w2.cell? ⟨w.heap.size, 0, none⟩ = some (.int .i64 (wd : Nat)) := by rw [hb2.cell (p := ⟨w.heap.size, 0, none⟩) (by simp), World.cell?_alloc_at _ _ _ _ rfl]; rfl
  have hpB : w.heap.size < w2.heap.size := by have := hb2.size; simp at this; omega
  have hbw : Below w.heap.size w w2 := ((Below.refl _ _).alloc (Nat.le_refl _) _).trans (hb2.mono (by simp))
  have hI2 := hI.below hbw (Nat.le_refl _)
  clear hI hb2 hgi
  have hB0 : BuildAt w2.heap.size w2.heap.size [] ((w2.alloc (.cells #[.pointer none, .slice none 0 0] 170)).alloc (.cells #[.slice none 0 0] 22)) :=
    (BuildAt.fresh w2).below ((Below.refl _ _).alloc (Nat.le_refl _) _)
  have hO0 : OpenAt w2.heap.size (w2.heap.size + 1) [] ((w2.alloc (.cells #[.pointer none, .slice none 0 0] 170)).alloc (.cells #[.slice none 0 0] 22)) :=
    ⟨by omega, .slice none 0 0, by simpa using heap_alloc_new (w2.alloc (.cells #[.pointer none, .slice none 0 0] 170)) (.cells #[.slice none 0 0] 22), World.ownsRow_nil _ _ _ _, by simp [Value.ownBlock]⟩
  have hW0 : Below w2.heap.size w2 ((w2.alloc (.cells #[.pointer none, .slice none 0 0] 170)).alloc (.cells #[.slice none 0 0] 22)) := ((Below.refl _ _).alloc (Nat.le_refl _) _).alloc (by simp) _
  go_wp2_with fail
  generalize hw3 : ((w2.alloc (.cells #[.pointer none, .slice none 0 0] 170)).alloc (.cells #[.slice none 0 0] 22)) = w3 at *
  generalize hBB : w2.heap.size = B at *
  clear hw3
  go_loopw [0] (fun s wr => ∃ (k : Nat) (op : List Nat) (bs : List UInt8), k ≤ L.length ∧ IsInts w2 s (ints (L.drop k)) ∧ Capped s ∧ BuildAt B B bs wr ∧ OpenAt B (B + 1) op wr ∧ Below B w2 wr ∧ op.length % 8 = 0 ∧ (k < L.length → op.length ≤ k) ∧ op.length ≤ L.length + 8 ∧
    (∀ x ∈ op, x < 2 ^ wd) ∧ bs ++ runsB wd (L.drop k) op = runsB wd L []) (fun s _ => lenV s)
  case atStart => exact ⟨0, [], [], Nat.zero_le _, by simpa using hI2, hcap, hB0, hO0, hW0, rfl, by simp, by simp, by simp, rfl⟩
  case round =>
    obtain ⟨k, op, bs, hk, hIr, hCr, hBr, hOr, hbr, ho8, hok, hol, hog, heq⟩ := hrel
    clear hB0 hO0 hW0 hI2
    have hopl : op.length ≤ 1100 := by omega
    obtain ⟨R, hR⟩ : ∃ R, R = L.drop k := ⟨_, rfl⟩
    have hRl : R.length = L.length - k := by rw [hR, List.length_drop]
    have hRg : ∀ x ∈ R, x < 2 ^ wd := fun x hx => hg x (List.mem_of_mem_drop (hR ▸ hx))
    have hil : (ints R).length = R.length := by simp [ints]
    rw [← hR] at hIr heq
    have hpw : wr.cell? ⟨w.heap.size, 0, none⟩ = some (.int .i64 (wd : Nat)) := (hbr.cell (p := ⟨w.heap.size, 0, none⟩) hpB).trans hp2
    have hbs : bs.length ≤ 100000 := by have := congrArg List.length heq; rw [List.length_append] at this; simp at hlen; omega
    have hBs : B ≤ wr.heap.size := hBB ▸ hbr.size
    have Hol := Lib.hid hol; have Hok := Lib.hid hok; have Ho8 := Lib.hid ho8; have Heq := Lib.hid heq; have HRl := Lib.hid hRl; have HBr := Lib.hid hBr; have HOr := Lib.hid hOr; have Hbs := Lib.hid hbs; have HBs := Lib.hid hBs; have Hlen := Lib.hid hlen
    have HhR := Lib.hid hR
    clear hol hok ho8 heq hRl hBr hOr hbs hBs hR
    cases R with
    | nil =>
      obtain ⟨ad, cap, rfl⟩ := hIr.form
      go_wp2_with fail
      refine (shut_any B B (B + 1) w.heap.size wd bs op wr HBr.out HOr.out hpw hpB HBs.out h1 hopl Ho8.out hog (by have := Hbs.out; omega)).mono ?_
      rintro e w4 ⟨rfl, hB4, _, hb4⟩
      go_wp2_with fail
      refine (builderString_any B B _ w4 hB4 (by have := HBs.out; have := hb4.size; omega)).mono ?_
      rintro e w5 ⟨rfl, hb5⟩
      go_wp2_with fail
      go_ret2
      refine ⟨?_, hbw.trans (((hbr.trans hb4).trans hb5).mono (by omega))⟩
      have := Heq.out
      rw [runsB_nil] at this
      rw [← this]
      rfl
    | cons a R' =>
      obtain ⟨ad, cap, rfl⟩ := hIr.form
      have hIl := hIr
      rw [hil] at hIl
      rw [hil]
      obtain ⟨b0, off, rfl, hq, hlt0, hc⟩ := hIr.at (by simp [ints])
      have hcapr := hCr _ _ _ rfl
      rw [hil] at hcapr
      rw [hBB] at hlt0
      have hag := hRg a (List.mem_cons_self ..)
      have Hil := Lib.hid hil
      clear hq hil
      have c0 : w2.cell? ⟨b0, off, none⟩ = some (.int .i64 (a : Nat)) := hc 0 _ rfl
      have hRl : R'.length + 1 ≤ 1000 := by have := HRl.out; simp at this; omega
      have hcx : ∀ (j x : Nat), (a :: R')[j]? = some x → w2.cell? ⟨b0, off + j, none⟩ = some (.int .i64 (x : Nat)) := fun j x hj => hc j x (by unfold ints; rw [List.getElem?_map, hj]; rfl)
      have Hc := Lib.hid hc
      clear hc
      generalize hnR : (a :: R').length = n at *
      have hnp : 0 < n := by rw [← hnR]; simp
      have hnn : n ≤ 1000 := by rw [← hnR]; simpa using hRl
      have HnR := Lib.hid hnR
      clear hnR hRl
      go_wp2_with fail
      go_loopw [10] (fun c wr' => ∃ j : Nat, 1 ≤ j ∧ j ≤ headRun (a :: R') ∧ c = .int .i64 (j : Nat) ∧ Below wr.heap.size wr wr') (fun c _ => n - (intOf c).toNat)
      case atStart => exact ⟨1, Nat.le_refl _, headRun_pos a R', rfl, Below.refl _ _⟩
      case round =>
        obtain ⟨j, hj1, hjh, rfl, hbj⟩ := hrel
        have hle := headRun_le (a :: R')
        rw [HnR.out] at hle
        have hb2j := hbr.trans (hbj.mono HBs.out)
        have d0 := (hb2j.cell (p := ⟨b0, off, none⟩) hlt0).trans c0
        by_cases hlt : j < headRun (a :: R')
        · have hck := (hb2j.cell (p := ⟨b0, off + j, none⟩) hlt0).trans (hcx j a (headRun_at a R' j hlt))
          have Hlt := Lib.hid hlt
          have hjn : j < n := by omega
          have d1 : decide (j < n) = true := by simpa using hjn
          clear hle hlt hjh
          go_wp2_with fail
          go_quiet (fail)
          go_wp2_with fail
          go_roundw
          case rel => exact ⟨j + 1, by omega, Hlt.out, by go_num, below_drewN hbj _⟩
          case measure => simp [intOf]; omega
        · have hjc : j = headRun (a :: R') := by omega
          clear hlt
          have hjn : j ≤ n := hjc ▸ hle
          by_cases h8 : 8 ≤ j
          · have d8 : decide (8 ≤ j) = true := by simpa using h8
            by_cases hend : j < n
            focus
              obtain ⟨x, hx⟩ : ∃ x, (a :: R')[j]? = some x := ⟨_, List.getElem?_eq_getElem (by rw [HnR.out]; exact hend)⟩
              have hxa : ¬ x = a := headRun_stop a R' x (by rw [← hjc]; exact hx)
              have hck := (hb2j.cell (p := ⟨b0, off + j, none⟩) hlt0).trans (hcx _ x hx)
              have d1 : decide (j < n) = true := by simpa using hend
              have Hjc := Lib.hid hjc
              clear hle hjh hjc
              go_wp2_with fail
              go_quiet (fail)
              go_wp2_with fail
            rotate_left
            focus
              have d1 : decide (j < n) = false := by simpa using hend
              have Hjc := Lib.hid hjc
              clear hle hjh hjc
              go_wp2_with fail
              go_quiet (fail)
              go_wp2_with fail
            all_goals
              have hbq := below_drewN hbj nq
              have hb2q := hbr.trans (hbq.mono HBs.out)
              have hBq := HBr.out.below hbq
              have hOq := HOr.out.below hbq
              have hsq := hb2q.size
              rw [hBB] at hsq
              generalize wr.drewN nq = wq at *
              have hpq := (hb2q.cell (p := ⟨w.heap.size, 0, none⟩) hpB).trans hp2
              refine (shut_any B B (B + 1) w.heap.size wd bs op wq hBq hOq hpq hpB hsq h1 hopl Ho8.out hog (by have := Hbs.out; omega)).mono ?_
              rintro e w4 ⟨rfl, hB4, hO4, hb4⟩
              have hb24 := hb2q.trans hb4
              have hp4 := (hb24.cell (p := ⟨w.heap.size, 0, none⟩) hpB).trans hp2
              have c04 := (hb24.cell (p := ⟨b0, off, none⟩) hlt0).trans c0
              have hs4 := hb24.size
              rw [hBB] at hs4
              clear hBq hOq hpq hbq hb2q hsq d0 d1 d8 hb4
              have e2j : IntKind.u64.wrap (IntKind.u64.wrap ((j : Nat) : Int) * 2) = ((2 * j : Nat) : Int) := by
                rw [show IntKind.u64.wrap ((j : Nat) : Int) = ((j : Nat) : Int) by rw [IntKind.wrap_u64]; omega, IntKind.wrap_u64]; omega
              have hU' : ∀ w1, Calls Tryz.prog 72 #[.int .u64 (2 * (j : Int))] w1 fun e w' => e = .returned (.string ⟨(seven (2 * j)).toArray⟩) ∧ Below w1.heap.size w1 w' := fun w1 => uvarint_any _ _ (by omega) (by omega)
              have hU := Lib.hid hU'
              clear hU'
              have hs7 : (seven (2 * j)).length ≤ 10 := seven_len (by omega)
              have hll : (little (sizeB wd) a).length ≤ 4 := by rw [little_len]; unfold sizeB; omega
              have hN := Lib.hid (number_any a wd h1 hag)
              have hadd : ¬ 9223372036854775807 < (seven (2 * j)).length + (little (sizeB wd) a).length := by omega
              have hbs1 : (bs ++ flush wd op).length ≤ 200000 := by
                have := flush_len wd op h1 (by omega)
                rw [List.length_append]
                have := Hbs.out
                omega
              have hdr : w4.heap.size = w4.drew.heap.size := rfl
              have hp4B : w.heap.size < w4.heap.size := by omega
              have hb0B : b0 < w4.heap.size := by omega
              have HB4 := Lib.hid hB4
              have HO4 := Lib.hid hO4
              have hl7 : (seven (2 * j) ++ little (sizeB wd) a).length ≤ 20 := by rw [List.length_append]; omega
              clear hB4 hO4
              generalize hs7e : seven (2 * j) = s7 at *
              generalize hlle : little (sizeB wd) a = ll at *
              have Hs7e := Lib.hid hs7e
              have Hlle := Lib.hid hlle
              clear hs7e hlle
              go_wp2_with fail
              go_region_held3 (fun w' => w'.cell? ⟨b0, off, none⟩ = some (.int .i64 (a : Nat)) ∧ w'.cell? ⟨w.heap.size, 0, none⟩ = some (.int .i64 (wd : Nat)))
                (first | exact ⟨c04, hp4⟩ | exact ⟨c05, hp5⟩ | exact ⟨c06, hp6⟩ | exact ⟨c07, hp7⟩)
                (first
                | (go_at_call 72; refine (hU.out _).mono ?_; rintro e w5 ⟨rfl, hb5⟩
                   have hb5 : Below w4.heap.size w4 w5 := (Below.refl w4.heap.size w4).drew.trans (hb5.mono (Nat.le_of_eq hdr))
                   have c05 := (hb5.cell (p := ⟨b0, off, none⟩) hb0B).trans c04
                   have hp5 := (hb5.cell (p := ⟨w.heap.size, 0, none⟩) hp4B).trans hp4)
                | (go_at_call 101; refine (hN.out _).mono ?_; rintro e w6 ⟨rfl, hb6⟩
                   have hb6 := below_trans hb5 hb6
                   have c06 := (hb6.cell (p := ⟨b0, off, none⟩) hb0B).trans c04
                   have hp6 := (hb6.cell (p := ⟨w.heap.size, 0, none⟩) hp4B).trans hp4)
                | (go_at_call 99
                   have hB6 := HB4.out.below hb6
                   have hO6 := HO4.out.below hb6
                   rw [show (ByteArray.mk s7.toArray ++ ByteArray.mk ll.toArray) = ⟨(s7 ++ ll).toArray⟩ from ByteArray.mk_append_mk _ _]
                   refine (writeString_any B B (bs ++ flush wd op) (s7 ++ ll) w6 hB6 (by omega) (by have := hb6.size; omega)).mono ?_; rintro e w7 ⟨rfl, hB7, hb7, hk7⟩
                   have hO7 := hO6.written hB6 hk7
                   have hb67 : Below B w4 w7 := (hb6.mono hs4).trans hb7
                   have c07 := (hb67.cell (p := ⟨b0, off, none⟩) hlt0).trans c04
                   have hp7 := (hb67.cell (p := ⟨w.heap.size, 0, none⟩) hpB).trans hp4))
              go_wp2_with fail
              go_roundw
              case rel =>
                refine ⟨k + j, [], bs ++ flush wd op ++ (s7 ++ ll), by have := HRl.out; have := HnR.out; omega, ?_, Capped.sub hcapr, hB7, hO7, hb24.trans hb67, rfl, by simp, by simp, by simp, ?_⟩
                · rw [← List.drop_drop, ← HhR.out, ints_drop]
                  first
                  | exact IsNums.sub (by rw [hBB]; exact hlt0) Hc.out j _ _ (by rw [Hil.out])
                  | exact IsNums.sub' (by rw [hBB]; exact hlt0) Hc.out j n Hil.out.symm hcapr hjn
                  | exact .inl ⟨List.drop_eq_nil_of_le (by rw [Hil.out]; omega), _, _, by rw [show n - j = 0 by omega]⟩
                · rw [← Heq.out, runsB_run wd a R' op (by rw [← Hjc.out]; exact h8), ← Hjc.out, Hs7e.out, Hlle.out, ← List.drop_drop, ← HhR.out]
                  simp only [List.append_assoc]
              case measure => simp [lenV]; omega
          · have d8 : decide (8 ≤ j) = false := by simpa using h8
            obtain ⟨m, hm⟩ : ∃ m, m = min 8 n := ⟨_, rfl⟩
            have hmi : min (8 : Int) ((n : Nat) : Int) = ((m : Nat) : Int) := by omega
            have hm8 : m ≤ 8 := by omega
            have hmn : m ≤ n := by omega
            have hmc : m ≤ cap := by omega
            obtain ⟨z, hz⟩ : ∃ z, z = 8 - m := ⟨_, rfl⟩
            have h8z : (8 : Int) - (m : Int) = (z : Int) := by omega
            have hzm : m + z = 8 := by omega
            have Hz := Lib.hid hz; have Hzm := Lib.hid hzm
            clear hz hzm
            have Hm := Lib.hid hm
            clear hm
            by_cases hend : j < n
            focus
              obtain ⟨x, hx⟩ : ∃ x, (a :: R')[j]? = some x := ⟨_, List.getElem?_eq_getElem (by rw [HnR.out]; exact hend)⟩
              have hxa : ¬ x = a := headRun_stop a R' x (by rw [← hjc]; exact hx)
              have hck := (hb2j.cell (p := ⟨b0, off + j, none⟩) hlt0).trans (hcx _ x hx)
              have d1 : decide (j < n) = true := by simpa using hend
              have Hjc := Lib.hid hjc
              clear hle hjh hjc
              go_wp2_with fail
              go_quiet (fail)
              go_wp2_with fail
            rotate_left
            focus
              have d1 : decide (j < n) = false := by simpa using hend
              have Hjc := Lib.hid hjc
              clear hle hjh hjc
              go_wp2_with fail
              go_quiet (fail)
              go_wp2_with fail
            all_goals
              have hbq := below_drewN hbj nq
              have hb2q := hbr.trans (hbq.mono HBs.out)
              have hBq := HBr.out.below hbq
              obtain ⟨hBo, vo, hbko, howno, hneo⟩ := HOr.out.below hbq
              have hsq := hb2q.size
              rw [hBB] at hsq
              generalize wr.drewN nq = wq at *
              have co : wq.cell? ⟨B + 1, 0, none⟩ = some vo := by rw [Lib.cell_of_heap hbko]; rfl
              have fo : wq.frozen? ⟨B + 1, 0, none⟩ = false := Lib.frozen_of_heap hbko 0
              clear hbq d0 d1 d8
              go_still_tail 4, (by kernel_rfl)
              change wpList _ _ _ _ _ wq.drew
              have hbk4 : wq.drew.heap[B + 1]? = some (.cells #[vo] 22 (0, 0)) := hbko
              have hown4 : wq.drew.ownsRow B 3 1 vo op.length (op.map natV) := howno
              have hBd4 : BuildAt B B bs wq.drew := hBq.below ((Below.refl _ _).drew)
              have hb24 := hb2q.trans ((Below.refl B wq).drew)
              have hs4 : B ≤ wq.drew.heap.size := hsq
              clear co fo hbko howno hBq hb2q hsq hneo
              generalize wq.drew = w4 at *
              have hnews : ∀ i u, (((a :: R').take m).map natV)[i]? = some u → w4.cell? ((⟨b0, off, none⟩ : Addr).add i) = some u := by
                intro i u hu
                rw [List.getElem?_map, List.getElem?_take] at hu
                split at hu
                · cases hx : (a :: R')[i]? with
                  | none => rw [hx] at hu; cases hu
                  | some x =>
                    rw [hx] at hu
                    injection hu with hu
                    subst hu
                    rw [Go.WideShapes.add_plain]
                    exact (hb24.cell (p := ⟨b0, off + i, none⟩) hlt0).trans (hcx i x hx)
                · cases hu
              have htl : ((a :: R').take m).length = m := by rw [List.length_take, HnR.out]; omega
              obtain ⟨O1, hO1⟩ : ∃ O1, O1 = op ++ (a :: R').take m := ⟨_, rfl⟩
              have hcb : O1.length = op.length + m := by rw [hO1, List.length_append, htl]
              have HO1 := Lib.hid hO1
              clear hO1
              have Hnews := Lib.hid hnews; have Htl := Lib.hid htl; have Hcb := Lib.hid hcb
              clear hnews htl hcb
              obtain ⟨i0, hi, hz0, hz1, hz2⟩ := info_parts info_int
              go_wp2_with (at_builtin; refine wpList_append_own _ rfl _ _ 22 rfl B 3 i0 (.int .i64 0) 1 8 Tryz.underlying22 hi hz0 hz1 hz2 rfl (by decide) _ _ _ rfl hown4 ⟨b0, off, none⟩ m cap (((a :: R').take m).map natV) rfl ?d1 ?d2 ?d3 ?d4 ?d5 hs4 ?_)
              case d1 => rw [List.length_map, Htl.out, Nat.mul_one]
              case d2 => exact Hnews.out
              case d3 => exact one_map (fun _ => rfl) _
              case d4 => unfold maxLen; omega
              case d5 => omega
              intro v5 w5 hown5 hgrow5 _
              rw [show List.map natV op ++ List.take m (natV a :: List.map natV R') = O1.map natV by rw [HO1.out]; simp, ← Hcb.out] at hown5
              have hpos5 : 0 < O1.length := by rw [Hcb.out]; have := Hm.out; omega
              obtain ⟨g5, cap5, rfl⟩ := own_pos hpos5 hown5
              obtain ⟨hbk5, hO6, hB6, hb6, hbk6, hown6⟩ := open_step hBo hbk4 hown4 hgrow5 hown5 hBd4 hs4
              have c5 : w5.cell? ⟨B + 1, 0, none⟩ = some vo := by rw [Lib.cell_of_heap hbk5]; rfl
              have f5 : w5.frozen? ⟨B + 1, 0, none⟩ = false := Lib.frozen_of_heap hbk5 0
              have Hbk6 := Lib.hid hbk6; have Hown6 := Lib.hid hown6; have HB6 := Lib.hid hB6
              clear hbk5 hO6 hbk6 hown6 hown5 hgrow5 hbk4 hown4 hBd4 hB6
              have hw6 : B ≤ (w5.setCell ⟨B + 1, 0, none⟩ (.slice (some ⟨g5, 0, none⟩) O1.length cap5)).heap.size := Nat.le_trans hs4 hb6.size
              have Hw6 := Lib.hid hw6
              clear hw6
              have hz1' : O1.length + z ≤ maxLen := by rw [Hcb.out, Nat.add_assoc, Hzm.out]; unfold maxLen; omega
              have hz2' : (O1.length + z) * 8 ≤ 140737488355328 := by rw [Hcb.out, Nat.add_assoc, Hzm.out]; omega
              have Hz1 := Lib.hid hz1'; have Hz2 := Lib.hid hz2'
              clear hz1' hz2'
              go_wp2_with (at_builtin; refine wpList_append_own_zeros rfl _ _ 22 3 rfl B 3 i0 (.int .i64 0) 8 .i64 .i64 Tryz.underlying22 Tryz.underlying3 hi hz0 hz1 hz2 rfl rfl _ _ _ rfl Hown6.out z rfl Hz1.out Hz2.out Hw6.out ?_)
              intro v7 w7 hown7 hgrow7
              obtain ⟨O2, hO2⟩ : ∃ O2, O2 = op ++ pad8 (a :: R') := ⟨_, rfl⟩
              have hO2' : O1 ++ List.replicate z 0 = O2 := by rw [hO2, HO1.out, Hz.out, ← pad_eq a R' m (by rw [Hm.out, HnR.out]), List.append_assoc]
              have hl2 : O2.length = op.length + 8 := by rw [hO2, List.length_append, pad8_len]
              have e2 : List.map natV O1 ++ List.replicate z (Value.int .i64 0) = O2.map natV := by rw [← hO2', List.map_append, List.map_replicate]; rfl
              have e3 : O1.length + z = O2.length := by rw [← hO2', List.length_append, List.length_replicate]
              rw [e2, e3] at hown7
              obtain ⟨hbk7, hO8, hB8, hb8, _, _⟩ := open_step hBo Hbk6.out Hown6.out hgrow7 hown7 HB6.out Hw6.out
              have hpos7 : 0 < O2.length := by omega
              obtain ⟨g7, cap7, rfl⟩ := own_pos hpos7 hown7
              have c7 : w7.cell? ⟨B + 1, 0, none⟩ = some (.slice (some ⟨g5, 0, none⟩) O1.length cap5) := by rw [Lib.cell_of_heap hbk7]; rfl
              have f7 : w7.frozen? ⟨B + 1, 0, none⟩ = false := Lib.frozen_of_heap hbk7 0
              have HO2 := Lib.hid hO2; have Hl2 := Lib.hid hl2; have HB8 := Lib.hid hB8; have HO8 := Lib.hid hO8
              clear hO2 hO2' hl2 e2 e3 hown7 hgrow7 hbk7 hO8 hB8
              go_wp2_with fail
              all_goals
                go_roundw
                case rel =>
                  refine ⟨k + m, O2, bs, by have := HRl.out; have := HnR.out; omega, ?_, Capped.sub hcapr, HB8.out, HO8.out, (hb24.trans hb6).trans hb8, by rw [Hl2.out]; have := Ho8.out; omega, ?_, ?_, ?_, ?_⟩
                  · rw [← List.drop_drop, ← HhR.out, ints_drop]
                    first
                    | exact IsNums.sub (by rw [hBB]; exact hlt0) Hc.out m _ _ (by rw [Hil.out])
                    | exact IsNums.sub' (by rw [hBB]; exact hlt0) Hc.out m n Hil.out.symm hcapr hmn
                    | exact .inl ⟨List.drop_eq_nil_of_le (by rw [Hil.out]; omega), _, _, by rw [show n - m = 0 by omega]⟩
                  · intro hk2
                    rw [Hl2.out]
                    have := HRl.out; have := HnR.out; have := Hok.out (by omega); have := Hm.out
                    omega
                  · rw [Hl2.out]
                    have := HRl.out; have := HnR.out; have := Hok.out (by omega)
                    omega
                  · rw [HO2.out]
                    intro x hx
                    rcases List.mem_append.1 hx with hx | hx
                    · exact hog x hx
                    · rcases List.mem_append.1 hx with hx | hx
                      · exact hRg x (List.mem_of_mem_take hx)
                      · rw [(List.mem_replicate.1 hx).2]; exact Nat.pow_pos (by decide)
                  · rw [← Heq.out, runsB_open wd a R' op (by rw [← Hjc.out]; omega), HO2.out, ← List.drop_drop, ← HhR.out]
                    congr 2
                    have := Hm.out; have := HnR.out
                    rcases Nat.le_total 8 n with h | h
                    · rw [show m = 8 by omega]
                    · rw [List.drop_eq_nil_of_le (by omega), List.drop_eq_nil_of_le (by omega)]
                case measure => simp [lenV]; omega
end Go.Proofs.YtapiabmmfmfaeaaGreatDoor
