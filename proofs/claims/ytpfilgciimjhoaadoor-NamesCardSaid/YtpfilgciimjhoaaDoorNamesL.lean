/- The walk of the statement Names. -/
import Derived.Test.YtpfilgciimjhoaaDoorNmW
import Derived.Deep.Cut
import Derived.IntWalk
import Derived.Deep.RegionHeld3
namespace Go.Proofs.YtpfilgciimjhoaaDoor
set_option linter.unusedVariables false
open Go Go.RowKit Go.ChangeShapes

def L17 : List Int := [8000, 6, 40, 12, 1000, 100, 40, 100, 20000, 32, 200000, 60, 40, 500000, 4, 100, 16]
def L9 : List Int := [0, 1, 2, 3, 4, 5, 1, 2, 3]
def tx : Nat → List UInt8
  | 0 => [116, 101, 120, 116]
  | 1 => [98, 111, 117, 110, 100]
  | 2 => [115, 104, 97, 112, 101]
  | 3 => [107, 105, 110, 100]
  | 4 => [110, 97, 109, 101]
  | 5 => [110, 111, 110, 101]
  | 6 => [115, 117, 109]
  | _ => [115, 112, 97, 99, 101]
def ob (l : List Int) : Obj := .cells (l.map fun x => Value.int .i64 x).toArray 3
theorem isInts_lit (l : List Int) (w w' : World) (b : Nat) (h : w'.heap[b]? = some (.cells (l.map fun x => Value.int .i64 x).toArray 3 (0, 0))) : IsInts w' (.slice (some ⟨b, 0, none⟩) l.length l.length) l := by
  refine .inr ⟨b, 0, l.length, rfl, (Array.getElem?_eq_some_iff.1 h).1, fun j x hj => ?_⟩
  rw [Lib.cell_of_heap h, Nat.zero_add]
  simp [hj]

set_option maxRecDepth 100000 in
set_option maxHeartbeats 1000000 in
theorem names_law (w : World) (hL : laidMetH Tryd.prog Rows.namesRow.laid w) :
    Calls Tryd.prog 3 #[] w fun e w' => e = .returned (.bool true) ∧ Below w.heap.size w w' := by
  have hL' : laidMetH Tryd.prog fullLaid w := hL
  obtain ⟨adr, hE, hT⟩ := env_texts hL'
  have HE := Lib.hid hE; have HT := Lib.hid hT
  have h1 : (((w.alloc (ob L17)).alloc (ob L17)).alloc (ob L9)).heap[w.heap.size]? = some (.cells (L17.map fun x => Value.int .i64 x).toArray 3 (0, 0)) := by
    rw [Lib.alloc_old _ _ _ (by simp; omega), Lib.alloc_old _ _ _ (by simp)]; exact heap_alloc_new w _
  have h2 : (((w.alloc (ob L17)).alloc (ob L17)).alloc (ob L9)).heap[w.heap.size + 1]? = some (.cells (L17.map fun x => Value.int .i64 x).toArray 3 (0, 0)) := by
    rw [Lib.alloc_old _ _ _ (by simp)]
    have h := heap_alloc_new (w.alloc (ob L17)) (ob L17)
    rw [show (w.alloc (ob L17)).heap.size = w.heap.size + 1 by simp] at h
    exact h
  have h3 : (((w.alloc (ob L17)).alloc (ob L17)).alloc (ob L9)).heap[w.heap.size + 2]? = some (.cells (L9.map fun x => Value.int .i64 x).toArray 3 (0, 0)) := by
    have h := heap_alloc_new ((w.alloc (ob L17)).alloc (ob L17)) (ob L9)
    rw [show ((w.alloc (ob L17)).alloc (ob L17)).heap.size = w.heap.size + 2 by simp] at h
    exact h
  have HS1 := Lib.hid (sameInts_same _ _ L17 _ (isInts_lit L17 w _ _ h1) (isInts_lit L17 w _ _ h2) (by decide))
  have H3 := Lib.hid h3
  have Hb := Lib.hid (show Below w.heap.size w (((w.alloc (ob L17)).alloc (ob L17)).alloc (ob L9)) from (((Below.refl _ _).alloc (Nat.le_refl _) _).alloc (by simp) _).alloc (by simp; omega) _)
  clear hL hL' hE hT h1 h2 h3
  go_enter Tryd.func3, Tryd.ntmps3
  go_wp2_with fail
  refine HS1.out.mono ?_; rintro e w1 ⟨rfl, hb1⟩
  have H31 := Lib.hid ((hb1.block _ (Array.getElem?_eq_some_iff.1 H3.out).1).trans H3.out)
  have Hb1 := Lib.hid (Hb.out.trans (hb1.mono Hb.out.size))
  have hs1 : w.heap.size + 2 < w1.heap.size := (Array.getElem?_eq_some_iff.1 H31.out).1
  have HS2 := Lib.hid (sameInts_same (.slice (some ⟨w.heap.size + 2, 0, none⟩) 9 9) (.slice (some ⟨w1.heap.size, 0, none⟩) 9 9) L9 (w1.alloc (ob L9)) (isInts_lit L9 w _ _ ((Lib.alloc_old w1 _ _ hs1).trans H31.out)) (isInts_lit L9 w _ _ (heap_alloc_new w1 (ob L9))) (by decide))
  have Hb1a := Lib.hid (Hb1.out.alloc Hb1.out.size (ob L9))
  clear hb1
  go_wp2_with fail
  refine HS2.out.mono ?_; rintro e w2 ⟨rfl, hb2⟩
  have Hb2 := Lib.hid (Hb1a.out.trans (hb2.mono Hb1a.out.size))
  clear hb2
  have hE2 := HE.out.below Hb2.out
  have e1 : w2.cell? ⟨0, 0, none⟩ = _ := hE2.cell 1 (by decide) (by decide)
  have e2 : w2.cell? ⟨1, 0, none⟩ = _ := hE2.cell 2 (by decide) (by decide)
  have e3 : w2.cell? ⟨2, 0, none⟩ = _ := hE2.cell 3 (by decide) (by decide)
  have e4 : w2.cell? ⟨3, 0, none⟩ = _ := hE2.cell 4 (by decide) (by decide)
  have e5 : w2.cell? ⟨4, 0, none⟩ = _ := hE2.cell 5 (by decide) (by decide)
  have e6 : w2.cell? ⟨5, 0, none⟩ = _ := hE2.cell 6 (by decide) (by decide)
  have e7 : w2.cell? ⟨6, 0, none⟩ = _ := hE2.cell 7 (by decide) (by decide)
  have e8 : w2.cell? ⟨7, 0, none⟩ = _ := hE2.cell 8 (by decide) (by decide)
  have HE2 := Lib.hid hE2
  clear hE2
  go_wp2_with fail
  obtain ⟨E8, hE8⟩ : ∃ E8 : Obj, E8 = .cells #[.iface 40 (.pointer (some (adr 1))), .iface 40 (.pointer (some (adr 2))), .iface 40 (.pointer (some (adr 3))), .iface 40 (.pointer (some (adr 4))), .iface 40 (.pointer (some (adr 5))), .iface 40 (.pointer (some (adr 6))), .iface 40 (.pointer (some (adr 7))), .iface 40 (.pointer (some (adr 8)))] 25 := ⟨_, rfl⟩
  go_loopw [6] (fun i wr => ∃ m : Nat, m ≤ 8 ∧ i = .int .i64 (m : Nat) ∧ Below (w2.heap.size + 2) ((w2.alloc (.cells #[.iface 40 (.pointer (some (adr 1))), .iface 40 (.pointer (some (adr 2))), .iface 40 (.pointer (some (adr 3))), .iface 40 (.pointer (some (adr 4))), .iface 40 (.pointer (some (adr 5))), .iface 40 (.pointer (some (adr 6))), .iface 40 (.pointer (some (adr 7))), .iface 40 (.pointer (some (adr 8)))] 25)).alloc (.cells #[.string ⟨#[116, 101, 120, 116]⟩, .string ⟨#[98, 111, 117, 110, 100]⟩, .string ⟨#[115, 104, 97, 112, 101]⟩, .string ⟨#[107, 105, 110, 100]⟩, .string ⟨#[110, 97, 109, 101]⟩, .string ⟨#[110, 111, 110, 101]⟩, .string ⟨#[115, 117, 109]⟩, .string ⟨#[115, 112, 97, 99, 101]⟩] 9)) wr) (fun i _ => 8 - (intOf i).toNat)
  case atStart => exact ⟨0, Nat.zero_le _, rfl, Below.refl _ _⟩
  case round =>
    obtain ⟨m, hm, rfl, hb9⟩ := hrel
    by_cases hlt : m < 8
    · have hsz : w2.heap.size + 2 ≤ wr.heap.size := by have := hb9.size; simpa using this
      have hce : wr.cell? ⟨w2.heap.size, m, none⟩ = some (.iface 40 (.pointer (some (adr (m + 1))))) := by
        rw [(hb9.cell (p := ⟨w2.heap.size, m, none⟩) (by show w2.heap.size < w2.heap.size + 2; omega)), World.cell?_alloc_lt _ _ ⟨w2.heap.size, m, none⟩ (by simp), World.cell?_alloc_at _ _ _ _ rfl]
        match m, hlt with
        | 0, _ => rfl
        | 1, _ => rfl
        | 2, _ => rfl
        | 3, _ => rfl
        | 4, _ => rfl
        | 5, _ => rfl
        | 6, _ => rfl
        | 7, _ => rfl
      have hct : wr.cell? ⟨w2.heap.size + 1, m, none⟩ = some (.string ⟨(tx m).toArray⟩) := by
        rw [(hb9.cell (p := ⟨w2.heap.size + 1, m, none⟩) (by show w2.heap.size + 1 < w2.heap.size + 2; omega)), World.cell?_alloc_at _ _ _ _ (by simp)]
        match m, hlt with
        | 0, _ => rfl
        | 1, _ => rfl
        | 2, _ => rfl
        | 3, _ => rfl
        | 4, _ => rfl
        | 5, _ => rfl
        | 6, _ => rfl
        | 7, _ => rfl
      have hbw : Below w2.heap.size w2 wr := (((Below.refl _ _).alloc (Nat.le_refl _) _).alloc (by simp) _).trans (hb9.mono (by simp))
      have hEr := HE2.out.below hbw
      have Ht := Lib.hid (((Hb2.out.trans (hbw.mono Hb2.out.size)).cell (block_lt_of_cell (HT.out (m + 1) (by omega) (by omega)))).trans (HT.out (m + 1) (by omega) (by omega)))
      have Hce := Lib.hid hce; have Hct := Lib.hid hct; have HEr := Lib.hid hEr; have Hbw := Lib.hid hbw; have Hb9 := Lib.hid hb9
      clear hb9 hbw hEr hct
      go_wp2_with fail
      have hba : Below wr.heap.size wr (wr.alloc (.cells #[.int .i64 7, .iface 40 (.pointer (some (adr (m + 1))))] 32)) := (Below.refl _ _).alloc (Nat.le_refl _) _
      refine (code_fault (m + 1) 7 wr.heap.size _ adr (HEr.out.below hba) (by omega) (by omega) (World.cell?_alloc_at _ _ _ _ rfl) (World.cell?_alloc_at _ _ _ _ rfl)).mono ?_
      rintro e w4 ⟨rfl, hb4⟩
      have Hb4 := Lib.hid (hba.trans (hb4.mono hba.size))
      have HE4 := Lib.hid (HEr.out.below Hb4.out)
      have hce4 := (Hb4.out.cell (block_lt_of_cell Hce.out)).trans Hce.out
      have hct4 := (Hb4.out.cell (block_lt_of_cell Hct.out)).trans Hct.out
      have Ht4 := Lib.hid ((Hb4.out.cell (block_lt_of_cell Ht.out)).trans Ht.out)
      clear hb4 hba hce
      have htx : errText (m + 1) = [115, 104, 114, 101, 100, 99, 111, 108, 58, 32] ++ tx m ∧ (tx m).length ≤ 5 := by
        match m, hlt with
        | 0, _ => exact ⟨rfl, by decide⟩
        | 1, _ => exact ⟨rfl, by decide⟩
        | 2, _ => exact ⟨rfl, by decide⟩
        | 3, _ => exact ⟨rfl, by decide⟩
        | 4, _ => exact ⟨rfl, by decide⟩
        | 5, _ => exact ⟨rfl, by decide⟩
        | 6, _ => exact ⟨rfl, by decide⟩
        | 7, _ => exact ⟨rfl, by decide⟩
      have HCd := Lib.hid (fun (w1 : World) (h : ErrEnv w1 adr) => show Calls Tryd.prog 6 #[.iface 40 (.pointer (some (adr (m + 1)))), .int .i64 ((m : Int) + 1)] w1 fun r w' => r = .returned (.bool true) ∧ Below w1.heap.size w1 w' from
        (coded_any (w := w1) (adr := adr) (e := .sent (m + 1)) (v := .iface 40 (.pointer (some (adr (m + 1))))) ((m : Int) + 1) h ⟨by omega, by omega, rfl⟩).mono fun r w' ⟨h1, h2⟩ => ⟨h1.trans (ret_of (by simp [GErr.code, GErr.at'])), h2⟩)
      have Ht5 := Lib.hid (show w4.cell? (adr (m + 1)) = some (.string (ByteArray.mk #[115, 104, 114, 101, 100, 99, 111, 108, 58, 32] ++ ByteArray.mk (tx m).toArray)) from by
        rw [Ht4.out, htx.1, ByteArray.mk_append_mk])
      have hlen := htx.2
      generalize tx m = T at *
      have hTs : ∀ wx : World, (Op.stringOp .add (ByteArray.mk #[115, 104, 114, 101, 100, 99, 111, 108, 58, 32]) (ByteArray.mk T.toArray)).run Tryd.prog wx = .ok (.string (ByteArray.mk #[115, 104, 114, 101, 100, 99, 111, 108, 58, 32] ++ ByteArray.mk T.toArray)) wx := fun wx => run_string_add_sum wx _ _ (by
        show 10 + T.toArray.size ≤ _
        rw [List.size_toArray]; omega)
      have hnil := nil_ahead (adr (m + 1))
      have hmet := method_Error (.pointer (some (adr (m + 1))))
      have H44 := Lib.hid (And.intro hce4 hct4)
      clear htx Ht4 Ht Hct
      have hwm : IntKind.i64.wrap ((m : Int) + 1) = (m : Int) + 1 := IntWalk.i64_in _ (by omega)
      go_upto_region 12 with fail
      go_region_held3 (fun w' => w'.cell? ⟨w2.heap.size, m, none⟩ = some (.iface 40 (.pointer (some (adr (m + 1))))) ∧ w'.cell? ⟨w2.heap.size + 1, m, none⟩ = some (.string ⟨T.toArray⟩))
        (first | exact H44.out | exact H45.out)
        (first
        | (go_at_call 37; refine (errError _ _ _ (by exact Ht5.out)).mono ?_; rintro e w5 ⟨rfl, rfl⟩)
        | (go_at_call 6; (with_reducible refine (HCd.out _ ?_).mono ?_); (focus (exact HE4.out.below (Below.refl _ _).drew)); rintro e w5 ⟨rfl, hb5⟩
           have H45 := Lib.hid (And.intro ((hb5.cell (block_lt_of_cell H44.out.1)).trans H44.out.1) ((hb5.cell (block_lt_of_cell H44.out.2)).trans H44.out.2))))
      have Hb5 := Lib.hid (((Below.refl w4.heap.size w4).drew).trans hb5)
      rename_i hHeld
      clear hHeld hb5 hTs hnil hmet hce4 hct4
      go_wp2_with fail
      go_roundw
      case rel => exact ⟨m + 1, by omega, by go_num, Hb9.out.trans ((Hb4.out.trans (Hb5.out.mono Hb4.out.size)).mono (by simpa using hsz))⟩
      case measure => simp [intOf]; omega
    · obtain rfl : m = 8 := by omega
      have hsz : w2.heap.size + 2 ≤ wr.heap.size := by have := hb9.size; simpa using this
      have hbw : Below w2.heap.size w2 wr := (((Below.refl _ _).alloc (Nat.le_refl _) _).alloc (by simp) _).trans (hb9.mono (by simp))
      have hEr := HE2.out.below hbw
      have hne : ∀ k, 1 ≤ k → k ≤ 8 → (⟨wr.heap.size, 0, none⟩ : Addr) ≠ adr k := by
        intro k h1 h8 he
        obtain ⟨c, t, hc⟩ := hEr.blk k h1 h8
        rw [← he] at hc
        exact absurd (Array.getElem?_eq_some_iff.1 hc).1 (Nat.lt_irrefl _)
      have Hne := Lib.hid hne; have HEr := Lib.hid hEr; have Hbw := Lib.hid hbw
      clear hne hEr hbw hb9 e1 e2 e3 e4 e5 e6 e7 e8
      go_wp2_with fail
      refine (errNew _ _).mono ?_; rintro e w4 ⟨rfl, rfl⟩
      have Hba := Lib.hid ((Below.refl wr.heap.size wr).alloc (Nat.le_refl _) (.cells #[.string ⟨#[97, 110, 111, 116, 104, 101, 114, 32, 111, 110, 101]⟩] 42))
      have HC := Lib.hid (code_other ⟨wr.heap.size, 0, none⟩ (wr.alloc (.cells #[.string ⟨#[97, 110, 111, 116, 104, 101, 114, 32, 111, 110, 101]⟩] 42)) adr (HEr.out.below Hba.out) ⟨_, _, heap_alloc_new _ _⟩ Hne.out)
      go_wp2_with fail
      refine HC.out.mono ?_; rintro e w5 ⟨rfl, hb5⟩
      have Hb5 := Lib.hid (Hba.out.trans (hb5.mono Hba.out.size))
      have HEn := Lib.hid ((HEr.out.below Hb5.out))
      clear hb5
      go_wp2_with fail
      refine ((coded_any (e := .nil) 0 HEn.out rfl)).mono ?_; rintro e w6 ⟨rfl, hb6⟩
      go_wp2_with fail
      go_ret
      exact ⟨ret_of (by rfl), below_trans Hb2.out (below_trans Hbw.out (below_trans Hb5.out hb6))⟩
end Go.Proofs.YtpfilgciimjhoaaDoor
