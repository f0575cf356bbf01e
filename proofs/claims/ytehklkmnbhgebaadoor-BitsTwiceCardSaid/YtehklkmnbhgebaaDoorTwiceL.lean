/- The walk of the statement BitsTwice. -/
import Derived.Test.YtehklkmnbhgebaaDoorIntsC
import Derived.Test.YtehklkmnbhgebaaDoorReadsW1
import Derived.Test.YtehklkmnbhgebaaDoorRuns2
import Derived.Test.YtehklkmnbhgebaaDoorSame
namespace Go.Proofs.YtehklkmnbhgebaaDoor
set_option linter.unusedVariables false
open Go Go.RowKit Go.ChangeShapes

theorem app_list (l : List UInt8) (t : ByteArray) : (ByteArray.mk l.toArray ++ t).data.toList = l ++ t.data.toList := by
  rw [ByteArray.data_append, Array.toList_append]
theorem app_size (l : List UInt8) (t : ByteArray) : (ByteArray.mk l.toArray ++ t).size = l.length + t.size := by
  rw [ByteArray.size_append]; rfl

theorem readRuns_some (s : ByteArray) (wd n : Nat) (T : TypeId) (x : Value) (w : World) (hw : wd ≤ 32) (hn : n ≤ 20000) (hs : s.size ≤ 100000) (hev : w.cell? ⟨0, 0, none⟩ = some (.iface T x)) {L : List Nat} {k : Nat} (h : readR wd n s.data.toList = some (L, k)) :
    Calls Tryd.prog 32 #[.string s, .int .i64 (wd : Nat), .int .i64 (n : Nat)] w fun e w' => (∃ u, e = .returned (.tuple #[u, .int .i64 (k : Nat), .nilIface]) ∧ w'.ownsRow w.heap.size 3 1 u L.length (L.map natV)) ∧ Below w.heap.size w w' := by
  refine (readRuns_any s wd n T x w hw hn hs hev).mono ?_
  rintro e w' ⟨h1, h2⟩
  rw [h] at h1
  exact ⟨h1, h2⟩

set_option maxRecDepth 100000 in
set_option maxHeartbeats 1000000 in
theorem bt_early (v : Value) (l : List Int) (wd : Int) (b : ByteArray) (w : World) (hI : IsInts w v l) (h1 : 400 < l.length ∨ 100 < b.size) (h2 : l.length ≤ maxLen) (h3 : b.size ≤ maxLen) :
    Calls Tryd.prog 6 #[v, .int .i64 wd, .string b] w fun e w' => e = .returned (.bool true) ∧ Below w.heap.size w w' := by
  obtain ⟨ad, cap, rfl⟩ := hI.form
  unfold maxLen at h2 h3
  by_cases h4 : 400 < l.length
  · have d1 : decide ((400 : Int) < (l.length : Int)) = true := by simp; omega
    clear h1 h4
    go_enter Tryd.func6, Tryd.ntmps6
    go_wp2_with fail
    refine (nine_any _).mono ?_; rintro e w1 ⟨rfl, hb1⟩
    go_wp2_with fail
    go_ret
    exact ⟨rfl, hb1⟩
  · have h5 : 100 < b.size := by omega
    have d1 : decide ((400 : Int) < (l.length : Int)) = false := by simp; omega
    clear h1 h4
    go_enter Tryd.func6, Tryd.ntmps6
    go_wp2_with fail
    refine (nine_any _).mono ?_; rintro e w1 ⟨rfl, hb1⟩
    go_wp2_with fail
    go_ret
    exact ⟨rfl, hb1⟩

set_option maxRecDepth 100000 in
set_option maxHeartbeats 2000000 in
theorem bt_fault (v : Value) (l : List Int) (wd : Int) (b : ByteArray) (w : World) (adr : Nat → Addr) (hI : IsInts w v l) (h1 : l.length ≤ 400) (h2 : b.size ≤ 100) (e : GErr) (hn : e ≠ .nil)
    (hP : ∀ u w1, Below w.heap.size w w1 → IsInts w1 u l → Calls Tryd.prog 28 #[u, .int .i64 wd] w1 fun r w' => (∃ x, r = .returned (.tuple #[.string ⟨#[]⟩, x]) ∧ IsErr w' adr e x) ∧ Below w1.heap.size w1 w')
    (hR : ∀ u w1, Below w.heap.size w w1 → IsInts w1 u l → Calls Tryd.prog 30 #[u, .int .i64 wd] w1 fun r w' => (∃ x, r = .returned (.tuple #[.string ⟨#[]⟩, x]) ∧ IsErr w' adr e x) ∧ Below w1.heap.size w1 w') :
    Calls Tryd.prog 6 #[v, .int .i64 wd, .string b] w fun e w' => e = .returned (.bool true) ∧ Below w.heap.size w w' := by
  have HI := Lib.hid hI
  have hin := fun w1 hI => ints_cap v l w1 hI (by omega)
  have Hin := Lib.hid hin
  have HP := Lib.hid hP; have HR := Lib.hid hR
  clear hP hR hin
  obtain ⟨ad, cap, rfl⟩ := hI.form
  have d1 : decide ((400 : Int) < (l.length : Int)) = false := by simp; omega
  clear hI
  go_enter Tryd.func6, Tryd.ntmps6
  go_wp2_with fail
  refine (nine_any _).mono ?_; rintro e w1 ⟨rfl, hb1⟩
  go_wp2_with fail
  refine (Hin.out _ (HI.out.below hb1 (Nat.le_refl _))).mono ?_; rintro e w2 ⟨⟨u, rfl, hu, _⟩, hb2⟩
  have hb2' := below_trans hb1 hb2
  clear hb1 hb2
  go_wp2_with fail
  refine (HP.out u w2 hb2' hu).mono ?_; rintro e w3 ⟨⟨x, rfl, hx⟩, hb3⟩
  have hb3' := below_trans hb2' hb3
  clear hb2' hb3
  go_wp2_with fail
  refine (Hin.out _ (HI.out.below hb3' (Nat.le_refl _))).mono ?_; rintro e w4 ⟨⟨u2, rfl, hu2, _⟩, hb4⟩
  have hb4' := below_trans hb3' hb4
  clear hb3' hb4
  go_wp2_with fail
  refine (HR.out u2 w4 hb4' hu2).mono ?_; rintro e w5 ⟨⟨y, rfl, hy⟩, hb5⟩
  have hb5' := below_trans hb4' hb5
  clear hb4' hb5
  obtain ⟨T1, a1, rfl, hT1⟩ := hx.some hn
  obtain ⟨T2, a2, rfl, hT2⟩ := hy.some hn
  clear hx hy hu hu2
  rcases hT1 with rfl | rfl <;> rcases hT2 with rfl | rfl
  all_goals
    go_wp2_with fail
    go_quiet (fail)
    go_wp2_with fail
    go_ret
    exact ⟨rfl, below_drewN hb5' _⟩

set_option maxRecDepth 100000 in
set_option maxHeartbeats 2000000 in
theorem bt_ok (v : Value) (l : List Int) (wd : Nat) (b : ByteArray) (w : World) (a : Addr) (hE : w.cell? ⟨0, 0, none⟩ = some (.iface 93 (.pointer (some a)))) (hI : IsInts w v l) (h1 : l.length ≤ 400) (h2 : b.size ≤ 100) (hw : wd ≤ 32) (hg : ∀ x ∈ l, Good wd x) :
    Calls Tryd.prog 6 #[v, .int .i64 (wd : Nat), .string b] w fun e w' => e = .returned (.bool true) ∧ Below w.heap.size w w' := by
  have HI := Lib.hid hI; have HE := Lib.hid hE; have Hg := Lib.hid hg
  have Hin := Lib.hid (fun w1 hI => ints_cap v l w1 hI (by omega))
  have hin : ints (nats l) = l := ints_nats l fun x hx => (hg x hx).1
  have hgn : ∀ n ∈ nats l, n < 2 ^ wd := by
    intro n hn
    obtain ⟨x, hx, rfl⟩ := List.mem_map.1 hn
    obtain ⟨g1, g2⟩ := hg x hx
    have : ((x.toNat : Nat) : Int) < ((2 ^ wd : Nat) : Int) := by rw [Int.toNat_of_nonneg g1, Int.natCast_pow]; exact g2
    exact Int.ofNat_lt.1 this
  have hnl : (nats l).length = l.length := by simp [nats]
  have hpl : (packed wd (nats l)).length ≤ 1600 := by
    rw [packed, bytesOf_len, hnl]
    have : l.length * wd ≤ 400 * 32 := Nat.mul_le_mul h1 hw
    omega
  have hpl2 : (nats l).length * wd ≤ 8 * (packed wd (nats l)).length := by rw [packed, bytesOf_len]; omega
  have hrl := runsB_len wd hw _ (nats l) [] rfl (by rw [hnl]; simp; omega)
  rw [hnl, List.length_nil] at hrl
  have HPk := Lib.hid (fun u w1 hu => pack_ok u l wd w1 hu hw (by omega) hg)
  have HRn := Lib.hid (fun u w1 (hu : IsInts w1 u (ints (nats l))) hc => runs_any u (nats l) wd w1 hu hc hw (by omega) hgn)
  have HUn := Lib.hid (fun w1 => unpack_ok (ByteArray.mk (packed wd (nats l)).toArray ++ b) wd l.length w1 hw (by omega) (by rw [app_size, ← hnl]; omega) (by rw [app_size]; omega))
  have HgA := Lib.hid (getAll_packed wd (nats l) hgn b.data.toList)
  have HRd := Lib.hid (fun w1 T x hev => readRuns_some (ByteArray.mk (runsB wd (nats l) []).toArray ++ b) wd l.length T x w1 hw (by omega) (by rw [app_size]; omega) hev (by rw [app_list, ← hnl]; exact readR_twice wd (nats l) b.data.toList hgn (by omega)))
  have HSm := Lib.hid (fun u w1 (hu : IsInts w1 u l) hv => sameInts_same u v l w1 hu hv (by omega))
  have Hnl := Lib.hid hnl; have Hhin := Lib.hid hin
  clear hI hE hg hin hgn hnl hpl2
  obtain ⟨ad, cap, rfl⟩ := HI.out.form
  have d1 : decide ((400 : Int) < (l.length : Int)) = false := by simp; omega
  generalize hpk : packed wd (nats l) = pk at *
  generalize hrn : runsB wd (nats l) [] = rn at *
  clear hpk hrn
  go_enter Tryd.func6, Tryd.ntmps6
  go_wp2_with fail
  refine (nine_any _).mono ?_; rintro e w1 ⟨rfl, hb1⟩
  go_wp2_with fail
  refine (Hin.out _ (HI.out.below hb1 (Nat.le_refl _))).mono ?_; rintro e w2 ⟨⟨u, rfl, hu, _⟩, hb2⟩
  have hb2' := below_trans hb1 hb2
  clear hb1 hb2
  go_wp2_with fail
  refine (HPk.out u w2 hu).mono ?_; rintro e w3 ⟨rfl, hb3⟩
  have hb3' := below_trans hb2' hb3
  clear hb2' hb3 hu
  go_wp2_with fail
  refine (Hin.out _ (HI.out.below hb3' (Nat.le_refl _))).mono ?_; rintro e w4 ⟨⟨u2, rfl, hu2, hcp⟩, hb4⟩
  have hb4' := below_trans hb3' hb4
  clear hb3' hb4
  have hu3 : IsInts w4 u2 (ints (nats l)) := by rw [Hhin.out]; exact hu2
  have Hu3 := Lib.hid hu3; have Hcp := Lib.hid hcp
  clear hu2 hu3 hcp
  go_wp2_with fail
  refine (HRn.out u2 w4 Hu3.out Hcp.out).mono ?_; rintro e w5 ⟨rfl, hb5⟩
  have hb5' := below_trans hb4' hb5
  clear hb4' hb5
  go_wp2_with fail
  refine (HUn.out w5).mono ?_; rintro e w6 ⟨⟨a, rfl, hao⟩, hb6⟩
  have hb6' := below_trans hb5' hb6
  clear hb5' hb6
  have hai : IsInts w6 a l := by
    rw [app_list, ← Hnl.out, HgA.out] at hao
    have := nums_nat hao
    rwa [Hhin.out] at this
  have Hai := Lib.hid hai
  clear hai hao
  have hev6 := (hb6'.cell (p := ⟨0, 0, none⟩) (block_lt_of_cell HE.out)).trans HE.out
  have Hev6 := Lib.hid hev6
  clear hev6
  go_wp2_with fail
  refine (HRd.out w6 _ _ Hev6.out).mono ?_; rintro e w7 ⟨⟨c, rfl, hco⟩, hb7⟩
  have hb7' := below_trans hb6' hb7
  have hci : IsInts w7 c l := by
    have := nums_nat hco
    rwa [Hhin.out] at this
  have Hci := Lib.hid hci
  have Hai7 := Lib.hid (Hai.out.below hb7 (Nat.le_refl _))
  clear hb6' hb7 hci hco
  go_wp2_with fail
  refine (HSm.out a w7 Hai7.out (HI.out.below hb7' (Nat.le_refl _))).mono ?_; rintro e w8 ⟨rfl, hb8⟩
  have hb8' := below_trans hb7' hb8
  have Hci8 := Lib.hid (Hci.out.below hb8 (Nat.le_refl _))
  clear hb7' hb8
  go_wp2_with fail
  refine (HSm.out c w8 Hci8.out (HI.out.below hb8' (Nat.le_refl _))).mono ?_; rintro e w9 ⟨rfl, hb9⟩
  go_wp2_with fail
  go_ret
  exact ⟨ret_of (by simp), below_trans hb8' hb9⟩

theorem cell_below {w w' : World} {g : Nat} {x : Value} (h : w.cell? ⟨g, 0, none⟩ = some x) (hb : Below w.heap.size w w') : w'.cell? ⟨g, 0, none⟩ = some x :=
  (hb.cell (p := ⟨g, 0, none⟩) (block_lt_of_cell h)).trans h

theorem bitsTwice_law {w : World} (v : Value) (l : List Int) (hI : IsInts w v l) (hF : Fits l) (wd : Int) (_h0 : -9223372036854775808 ≤ wd) (_h1 : wd < 9223372036854775808) (b : ByteArray) (hb : b.size ≤ maxLen) (hL : laidMetH Tryd.prog Rows.bitsTwiceRow.laid w) :
    Calls Tryd.prog 6 #[v, .int .i64 wd, .string b] w fun e w' => e = .returned (.bool true) ∧ Below w.heap.size w w' := by
  have hl : laidMet Tryd.prog Rows.bitsTwiceRow.laid w := hL
  obtain ⟨ads, hs, _⟩ := sents_of_laid [errRow 1, errRow 2, errRow 3] (fun x hx => err_named x (by
    simp only [List.mem_cons, List.not_mem_nil, or_false] at hx ⊢
    rcases hx with rfl | rfl | rfl <;> simp)) hl
  match ads, hs with
  | [a1, a2, a3], hs =>
  obtain ⟨c1, _, c2, _, c3, _, _⟩ := hs
  by_cases hlen : l.length ≤ 400 ∧ b.size ≤ 100
  · obtain ⟨hlen, hb1⟩ := hlen
    by_cases hwd : wd < 0 ∨ 32 < wd
    · have hbd : wd < 0 ∨ 32 < wd ∨ 20000 < l.length := by omega
      refine bt_fault v l wd b w (fun _ => a2) hI hlen hb1 (.sent 2) (by simp) ?_ ?_
      · intro u w1 hb hu
        refine pack_err u wd w1 _ (.sent 2) (by simp) ((check_bound u l wd w1 a2 hu (cell_below c2 hb) hbd).mono ?_)
        rintro r w2 ⟨rfl, hb2⟩
        exact ⟨⟨_, rfl, by decide, by decide, rfl⟩, hb2⟩
      · intro u w1 hb hu
        refine runs_err u wd w1 _ (.sent 2) (by simp) fun w2 hb2 => ((check_bound u l wd w2 a2 (hu.below hb2 (Nat.le_refl _)) (cell_below (cell_below c2 hb) hb2) hbd).mono ?_)
        rintro r w3 ⟨rfl, hb3⟩
        exact ⟨⟨_, rfl, by decide, by decide, rfl⟩, hb3⟩
    · obtain ⟨n, rfl⟩ := Int.eq_ofNat_of_zero_le (show 0 ≤ wd by omega)
      have hn : n ≤ 32 := by omega
      by_cases hall : ∀ x ∈ l, Good n x
      · exact bt_ok v l n b w a1 c1 hI hlen hb1 hn hall
      · have := fun x => Classical.propDecidable (Good n x)
        obtain ⟨i, x, hx, hbd, hlt⟩ := first_bad (Good n) l hall
        have hi : i < l.length := (List.getElem?_eq_some_iff.1 hx).1
        have hxm : x ∈ l := by
          obtain ⟨h, rfl⟩ := List.getElem?_eq_some_iff.1 hx
          exact List.getElem_mem h
        refine bt_fault v l n b w (fun _ => a3) hI hlen hb1 (.fault 3 i) (by simp) ?_ ?_
        · intro u w1 hbw hu
          exact pack_err u n w1 _ (.fault 3 i) (by simp) (check_bad u l n i x w1 _ (cell_below c3 hbw) hu hn (by omega) hi hx (hF.2 x hxm) hlt hbd)
        · intro u w1 hbw hu
          exact runs_err u n w1 _ (.fault 3 i) (by simp) fun w2 hb2 => (check_bad u l n i x w2 _ (cell_below (cell_below c3 hbw) hb2) (hu.below hb2 (Nat.le_refl _)) hn (by omega) hi hx (hF.2 x hxm) hlt hbd)
  · exact bt_early v l wd b w hI (by omega) hF.1 hb
end Go.Proofs.YtehklkmnbhgebaaDoor
