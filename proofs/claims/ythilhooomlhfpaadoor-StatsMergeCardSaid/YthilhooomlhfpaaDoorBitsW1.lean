/- The walks of bitrun's Put, Text, pack. -/
import Derived.Test.YthilhooomlhfpaaDoorWireW9
import Derived.Test.YthilhooomlhfpaaDoorBits1
import Derived.StillTailTactics
import Derived.Lib.Builder
namespace Go.Proofs.YthilhooomlhfpaaDoor
open Go Go.RowKit

/-- bits being put, in a block of their own -/
def BitsAt (B b m V : Nat) (w : World) : Prop :=
  B ≤ b ∧ ∃ v, w.heap[b]? = some (.cells #[v, .int .i64 (m : Nat)] 222 (0, 0)) ∧ w.ownsRow B 5 1 v (bytesOf m V).length ((bytesOf m V).map byteV)

set_option maxRecDepth 100000 in
set_option maxHeartbeats 1000000 in
theorem text_bits (B b m V : Nat) (w : World) (h : BitsAt B b m V w) :
    Calls Tryd.prog 145 #[.pointer (some ⟨b, 0, none⟩)] w fun e w' => e = .returned (.string ⟨(bytesOf m V).toArray⟩) ∧ w' = w := by
  obtain ⟨hB, v, hbk, hown⟩ := h
  have c0 : w.cell? ⟨b, 0, none⟩ = some v := by rw [Lib.cell_of_heap hbk]; rfl
  have hr := run_own_string (P := Tryd.prog) (src := 78) (dst := 9) Tryd.underlying78 Tryd.underlying5 Tryd.underlying9 hown
  go_enter Tryd.func145, Tryd.ntmps145
  go_wp2
  go_ret
  exact ⟨rfl, rfl⟩

theorem info_u8b : (Tryd.prog.info? 5).map (fun i => (i.zero, i.size, i.bytes)) = some (some (.int .u8 0), 1, 1) := by kernel_rfl

theorem BitsAt.lt {B b m V : Nat} {w : World} (h : BitsAt B b m V w) : b < w.heap.size := by
  obtain ⟨_, v, hb, _⟩ := h
  exact (Array.getElem?_eq_some_iff.1 hb).1

theorem wrap_small (n : Int) (h0 : 0 ≤ n) (h1 : n < 9223372036854775808) : IntKind.i64.wrap n = n := by rw [IntKind.wrap_i64]; omega

theorem own_some {w : World} {B n : Nat} {e : TypeId} {v : Value} {xs : List Value} (h : w.ownsRow B e 1 v (n + 1) xs) : ∃ g cap, v = .slice (some ⟨g, 0, none⟩) (n + 1) cap := by
  rcases h.2 with ⟨_, h0⟩ | ⟨g, cap, cur, hv, _⟩
  · omega
  · exact ⟨g, cap, hv⟩

theorem own_row {w : World} {B n g c cap : Nat} {e : TypeId} {xs : List Value} (h : w.ownsRow B e 1 (.slice (some ⟨g, 0, none⟩) c cap) n xs) :
    ∃ cur, w.heap[g]? = some (.cells cur e (0, 0)) ∧ B ≤ g ∧ cur.toList.take n = xs ∧ n ≤ cur.size := by
  rcases h.2 with ⟨hv, h0⟩ | ⟨g', cap', cur, hv, h1, h2, h3, _, h4, h5⟩
  · cases hv
  · injection hv with e1 e2 e3
    injection e1 with e1
    injection e1 with e1
    subst e1
    exact ⟨cur, h2, h1, by simpa using h5, by omega⟩
/-- a place of an owned row is written -/
theorem own_set {w : World} {B n g c cap : Nat} {e : TypeId} {xs : List Value} (h : w.ownsRow B e 1 (.slice (some ⟨g, 0, none⟩) c cap) n xs) (q : Nat) (hq : q < n) (x : Value) :
    (w.setCell ⟨g, q, none⟩ x).ownsRow B e 1 (.slice (some ⟨g, 0, none⟩) c cap) n (xs.set q x) := by
  rcases h.2 with ⟨hv, h0⟩ | ⟨g', cap', cur, hv, h1, h2, h3, h3', h4, h5⟩
  · cases hv
  · injection hv with e1 e2 e3
    injection e1 with e1
    injection e1 with e1
    subst e1 e2 e3
    refine ⟨by simpa using h.1, .inr ⟨g, cap, cur.setIfInBounds q x, rfl, h1, ?_, h3, h3', by simpa using h4, ?_⟩⟩
    · exact heap_setCell_same _ _ _ _ _ _ h2
    · rw [← h5, Array.toList_setIfInBounds, List.take_set]

theorem bits_stored {B b q e M VV bt X g cap : Nat} {w3 : World} (hB : B ≤ b) (hb3 : w3.heap[b]? = some (.cells #[.slice (some ⟨g, 0, none⟩) (q + 1) cap, .int .i64 (M : Nat)] 222 (0, 0)))
    (hown3 : w3.ownsRow B 5 1 (.slice (some ⟨g, 0, none⟩) (q + 1) cap) (q + 1) ((little (q + 1) VV).map byteV)) (hgb : g ≠ b) (hdm : 8 * q + e = M) (he : e < 8) (hbt : bt ≤ 1) (hV : VV < 2 ^ M)
    (hX : (UInt8.ofNat (VV / 256 ^ q)).toNat = X) :
    BitsAt B b (M + 1) (VV + bt * 2 ^ M) ((w3.setCell ⟨g, q, none⟩ (.int .u8 ((X : Int) + (bt : Int) * 2 ^ e))).setCell ⟨b, 1, none⟩ (.int .i64 ((M : Int) + 1))).drew := by
  subst hdm
  have h1 := little_put q VV e bt he hbt hV
  obtain ⟨_, hlt2⟩ := little_last q VV e he hV
  have hp : (2 : Nat) ^ e ≤ 128 := Nat.pow_le_pow_right (by decide : 2 > 0) (show e ≤ 7 by omega)
  have hbe : bt * 2 ^ e ≤ 128 := Nat.le_trans (Nat.mul_le_mul_right _ hbt) (by omega)
  rw [UInt8.toNat_ofNat', Nat.mod_eq_of_lt (by omega)] at hX
  have hv : Value.int .u8 ((X : Int) + (bt : Int) * 2 ^ e) = byteV (UInt8.ofNat (VV / 256 ^ q + bt * 2 ^ e)) := by
    unfold byteV
    rw [UInt8.toNat_ofNat', Nat.mod_eq_of_lt (by omega), hX]
    congr 1
  have hh : (w3.setCell ⟨g, q, none⟩ (.int .u8 ((X : Int) + (bt : Int) * 2 ^ e))).heap[b]? = some (.cells #[.slice (some ⟨g, 0, none⟩) (q + 1) cap, .int .i64 ((8 * q + e : Nat) : Int)] 222 (0, 0)) := by
    rw [heap_setCell_other _ _ _ _ (fun h => hgb h.symm)]; exact hb3
  have ho := own_set hown3 q (by omega) (.int .u8 ((X : Int) + (bt : Int) * 2 ^ e))
  refine ⟨hB, .slice (some ⟨g, 0, none⟩) (q + 1) cap, ?_, ?_⟩
  · show ((w3.setCell ⟨g, q, none⟩ (.int .u8 ((X : Int) + (bt : Int) * 2 ^ e))).setCell ⟨b, 1, none⟩ (.int .i64 (((8 * q + e : Nat) : Int) + 1))).heap[b]? = _
    rw [heap_setCell_same _ _ _ _ _ _ hh]
    rfl
  · have h2 : (bytesOf (8 * q + e + 1) (VV + bt * 2 ^ (8 * q + e))) = (little (q + 1) VV).set q (UInt8.ofNat (VV / 256 ^ q + bt * 2 ^ e)) := by
      rw [h1, bytesOf, show (8 * q + e + 1 + 7) / 8 = q + 1 by omega]
    rw [h2, List.length_set, little_len, List.map_set, ← hv]
    have hk := ho.kept (w' := ((w3.setCell ⟨g, q, none⟩ (.int .u8 ((X : Int) + (bt : Int) * 2 ^ e))).setCell ⟨b, 1, none⟩ (.int .i64 (((8 * q + e : Nat) : Int) + 1))).drew) (row := some b)
      ⟨rfl, rfl, rfl, by simp [World.setCell], fun k _ hk => Below.heap_setCell _ _ _ _ (fun e : k = b => hk (by rw [e]))⟩ (Or.inr (fun e => hgb (by simpa [Value.ownBlock] using e)))
    exact hk

set_option maxRecDepth 100000 in
set_option maxHeartbeats 2000000 in
theorem put_any (B b m V n wd : Nat) (w : World) (h : BitsAt B b m V w) (hV : V < 2 ^ m) (hn : n < 18446744073709551616) (hwd : wd ≤ 64) (hm : m ≤ 1900000) (hBw : B ≤ w.heap.size) :
    Calls Tryd.prog 144 #[.pointer (some ⟨b, 0, none⟩), .int .u64 (n : Nat), .int .i64 (wd : Nat)] w fun e w' =>
      e = .returned (.tuple #[]) ∧ BitsAt B b (m + wd) (V + (n % 2 ^ wd) * 2 ^ m) w' ∧ V + (n % 2 ^ wd) * 2 ^ m < 2 ^ (m + wd) ∧ Below B w w' := by
  obtain ⟨i0, hi, hz0, hz1, hz2⟩ := info_parts info_u8b
  go_enter Tryd.func144, Tryd.ntmps144
  go_wp2
  go_loopw [6, 8] (fun _ i wr => ∃ k : Nat, k ≤ wd ∧ i = .int .i64 k ∧ BitsAt B b (m + k) (V + (n % 2 ^ k) * 2 ^ m) wr ∧ V + (n % 2 ^ k) * 2 ^ m < 2 ^ (m + k) ∧ Below B w wr) (fun _ i _ => wd - (intOf i).toNat)
  case atStart => exact ⟨0, Nat.zero_le _, rfl, by simpa [Nat.mod_one] using h, by simpa [Nat.mod_one] using hV, Below.refl _ _⟩
  case round =>
    obtain ⟨k, hk, rfl, hat, hVk, hb⟩ := hrel
    clear h
    by_cases hlt : k < wd
    · obtain ⟨hB, v, hbk, hown⟩ := hat
      have hMv : m + k = (m + k) := rfl
      generalize hMe : m + k = M at *
      generalize hVe : V + n % 2 ^ k * 2 ^ m = VV at *
      clear hMv
      have HM := Lib.hid hMe; have HV := Lib.hid hVe; clear hMe hVe
      have c0 : wr.cell? ⟨b, 0, none⟩ = some v := by rw [Lib.cell_of_heap hbk]; rfl
      have c1 : wr.cell? ⟨b, 1, none⟩ = some (.int .i64 (M : Nat)) := by rw [Lib.cell_of_heap hbk]; rfl
      have hMlt : M ≤ 2000000 := by have := HM.out; omega
      by_cases h8 : M % 8 = 0
      focus
        have hd : (((M : Nat) : Int) % 8 == 0) = true := by rw [beq_iff_eq]; omega
        have hlen : (bytesOf M VV).length = M / 8 := by rw [bytesOf_len]; omega
        have Hlen := Lib.hid hlen; clear hlen
        go_wp2_with (at_builtin; refine wpList_append_own _ rfl _ _ 78 rfl B 5 i0 (.int .u8 0) 1 1 Tryd.underlying78 hi hz0 hz1 hz2 rfl (by decide) _ _ _ rfl (hown.alloc _) ⟨wr.heap.size, 0, none⟩ 1 1 [byteV 0] rfl rfl ?c1 ?c2 ?c3 ?c4 ?c5 ?_)
        case c1 =>
          intro j u hj
          match j, hj with
          | 0, hj => simp at hj; subst hj; simp [Addr.add]; rfl
        case c2 => intro u hu; simp at hu; subst hu; rfl
        case c3 => rw [Hlen.out]; unfold maxLen; omega
        case c4 => rw [Hlen.out]; omega
        case c5 => have := hb.size; simp; omega
        intro v' w2 hown' hgrow _
        have hlt' : b < wr.heap.size := (Array.getElem?_eq_some_iff.1 hbk).1
        have hne := Lib.ownBlock_ne hown hbk (by decide)
        have hb2 : w2.heap[b]? = some (.cells #[v, .int .i64 (M : Nat)] 222 (0, 0)) := by
          rw [hgrow.block b (by simp; omega) (fun e => hne e.symm), Lib.alloc_old wr _ b hlt']
          exact hbk
        have hbel2 : Below B w w2 := ((hb.alloc (by have := hb.size; omega) _).grown hgrow (by have := hb.size; simp; omega) (fun k hk => (hown.lt k hk).1))
        rw [← List.map_singleton (f := byteV), ← List.map_append, Hlen.out, show (bytesOf M VV) ++ [0] = little (M / 8 + 1) VV by
          rw [← little_grow (M / 8) VV (by rwa [show 8 * (M / 8) = M by omega])]; rw [bytesOf, show (M + 7) / 8 = M / 8 by omega]] at hown'
        obtain ⟨g, cap, rfl⟩ := own_some hown'
        have d0 : w2.cell? ⟨b, 0, none⟩ = some v := by rw [Lib.cell_of_heap hb2]; rfl
        have f0 : w2.frozen? ⟨b, 0, none⟩ = false := Lib.frozen_of_heap hb2 0
        go_wp2_with fail
        have hb3 : (w2.setCell ⟨b, 0, none⟩ (.slice (some ⟨g, 0, none⟩) (M / 8 + 1) cap)).heap[b]? = some (.cells #[(.slice (some ⟨g, 0, none⟩) (M / 8 + 1) cap), .int .i64 (M : Nat)] 222 (0, 0)) := by
          simp [World.setCell, Array.getElem?_modify, hb2]
        have hown3 : (w2.setCell ⟨b, 0, none⟩ (.slice (some ⟨g, 0, none⟩) (M / 8 + 1) cap)).ownsRow B 5 1 (.slice (some ⟨g, 0, none⟩) (M / 8 + 1) cap) (M / 8 + 1) ((little (M / 8 + 1) VV).map byteV) :=
          hown'.kept (row := some b) ⟨rfl, rfl, rfl, by simp [World.setCell], fun k _ hk => Below.heap_setCell _ _ _ _ (fun e : k = b => hk (by rw [e]))⟩ (Or.inr (Lib.ownBlock_ne hown' hb2 (T := 222) (e := 5) (by decide)))
        have hbel3 : Below B w (w2.setCell ⟨b, 0, none⟩ (.slice (some ⟨g, 0, none⟩) (M / 8 + 1) cap)) := hbel2.setCell (p := ⟨b, 0, none⟩) hB _
        generalize w2.setCell ⟨b, 0, none⟩ (.slice (some ⟨g, 0, none⟩) (M / 8 + 1) cap) = w3 at *
        clear hd hown hbk c0 c1 hown' hb2 hbel2 d0 f0 hgrow
      rotate_left
      focus
        have hd : (((M : Nat) : Int) % 8 == 0) = false := by rw [beq_eq_false_iff_ne]; omega
        go_wp2_with fail
        have hb3 := hbk
        have hown3 := hown
        have hbel3 := hb
        rw [bytesOf, show (M + 7) / 8 = M / 8 + 1 by omega, little_len] at hown3
        obtain ⟨g, cap, rfl⟩ := own_some hown3
        clear hd hown hbk c0 c1
        obtain ⟨w3, hw3⟩ : ∃ w3 : World, w3 = wr := ⟨_, rfl⟩
        subst hw3
      all_goals
        obtain ⟨hlast, hlt2⟩ := little_last (M / 8) VV (M % 8) (Nat.mod_lt _ (by decide)) (by rwa [Nat.div_add_mod])
      all_goals
        have he8 : M % 8 < 8 := Nat.mod_lt _ (by decide)
        have hmd : ((M : Nat) : Int).tmod 8 = ((M % 8 : Nat) : Int) := rfl
        have Hdm := Lib.hid (Nat.div_add_mod M 8)
        have Hlast := Lib.hid hlast; clear hlast
        clear h8
        generalize M / 8 = q at *
        generalize M % 8 = e at *
        obtain ⟨cur, hgk, hBg, htake, hsz⟩ := own_row hown3
        have hcg : w3.cell? ⟨g, q, none⟩ = some (byteV (UInt8.ofNat (VV / 256 ^ q))) := by
          rw [Lib.cell_of_heap hgk]
          have := congrArg (·[q]?) htake
          simp only [List.getElem?_take, List.getElem?_map, Hlast.out, show q < q + 1 by omega, if_true] at this
          simpa using this
        have hfg : w3.frozen? ⟨g, q, none⟩ = false := Lib.frozen_of_heap hgk _
        have c0 : w3.cell? ⟨b, 0, none⟩ = some (.slice (some ⟨g, 0, none⟩) (q + 1) cap) := by rw [Lib.cell_of_heap hb3]; rfl
        have c1 : w3.cell? ⟨b, 1, none⟩ = some (.int .i64 (M : Nat)) := by rw [Lib.cell_of_heap hb3]; rfl
        unfold byteV at hcg
        have hbn := (UInt8.ofNat (VV / 256 ^ q)).toNat_lt
        generalize hX : (UInt8.ofNat (VV / 256 ^ q)).toNat = X at hcg hbn
        have HX := Lib.hid hX; clear hX
        clear htake hsz
        have hq1 : IntKind.i64.wrap ((q : Nat) : Int) = (q : Int) := wrap_small _ (by omega) (by have := Hdm.out; omega)
        have hbt : bits .and .u64 ((n : Int) / 2 ^ k) 1 = ((n / 2 ^ k % 2 : Nat) : Int) := by
          rw [show ((n : Int) / 2 ^ k) = ((n / 2 ^ k : Nat) : Int) by simp, show (1 : Int) = ((1 : Nat) : Int) from rfl, u64_and_nat _ 1 (Nat.lt_of_le_of_lt (Nat.div_le_self _ _) hn) (by decide), nat_mask1]
        have hbt1 : n / 2 ^ k % 2 ≤ 1 := by omega
        have Hbt := Lib.hid (bits_succ n k)
        generalize n / 2 ^ k % 2 = bt at *
        have hw8 : IntKind.u8.wrap ((bt : Nat) : Int) = (bt : Int) := by rw [IntKind.wrap_u8]; omega
        have hX2 : X < 2 ^ e := by
          rw [← HX.out, UInt8.toNat_ofNat', Nat.mod_eq_of_lt (Nat.lt_of_lt_of_le hlt2 (Nat.pow_le_pow_right (by decide) (by omega)))]
          exact hlt2
        have hbe : bt * 2 ^ e ≤ 128 := Nat.le_trans (Nat.mul_le_mul hbt1 (Nat.pow_le_pow_right (by decide : 2 > 0) (show e ≤ 7 by omega))) (by decide)
        have hor : bits .or .u8 (X : Int) ((bt : Int) * 2 ^ e % 256) = ((X + bt * 2 ^ e : Nat) : Int) := by
          rw [show ((bt : Int) * 2 ^ e % 256) = ((bt * 2 ^ e : Nat) : Int) by rw [Int.natCast_mul, Int.natCast_pow]; exact Int.emod_eq_of_lt (by exact_mod_cast Nat.zero_le (bt * 2 ^ e)) (by exact_mod_cast (show bt * 2 ^ e < 256 by omega))]
          rw [u8_or_nat _ _ (by omega) (by omega), Nat.or_comm, Nat.add_comm, Nat.mul_comm bt, ← Nat.two_pow_add_eq_or_of_lt hX2]
        have hgb : g ≠ b := fun h => Lib.ownBlock_ne hown3 hb3 (T := 222) (e := 5) (by decide) (by rw [h]; rfl)
        have hgb' : b ≠ g := fun h => hgb h.symm
        have Hhor := Lib.hid hbe; clear hbe
        have HX2 := Lib.hid hX2; clear hX2
        have fb1 : w3.frozen? ⟨b, 1, none⟩ = false := Lib.frozen_of_heap hb3 1
        have hin : ((q : Nat) : Int) < (q : Int) + 1 := by omega
        go_still_tail 25, (by kernel_rfl)
        obtain ⟨w4, hw4⟩ : ∃ w4 : World, w4 = w3.drew := ⟨_, rfl⟩
        change wpList _ _ _ _ _ w3.drew
        rw [← hw4]
        go_wp2_with fail
        go_roundw
        case rel =>
          have hst := bits_stored hB hb3 hown3 hgb Hdm.out he8 hbt1 hVk HX.out
          have hnum : V + n % 2 ^ (k + 1) * 2 ^ m = VV + bt * 2 ^ M := by
            rw [Hbt.out, ← HV.out, ← HM.out, Nat.add_mul, Nat.mul_assoc, ← Nat.pow_add, Nat.add_comm k m, Nat.add_assoc]
          refine ⟨k + 1, by omega, by go_num, ?_, ?_, ?_⟩
          · rw [hnum, show m + (k + 1) = M + 1 by rw [← HM.out]; omega]
            exact hst
          · rw [hnum, show m + (k + 1) = M + 1 by rw [← HM.out]; omega, Nat.pow_succ]
            have := Nat.mul_le_mul_right (2 ^ M) hbt1
            omega
          · exact ((hbel3.setCell (p := ⟨g, q, none⟩) hBg _).setCell (p := ⟨b, 1, none⟩) hB _).drew
        case measure => simp [intOf]; omega
    · obtain rfl : k = wd := by omega
      go_wp2
      go_end0
      exact ⟨rfl, hat, hVk, hb⟩
end Go.Proofs.YthilhooomlhfpaaDoor
