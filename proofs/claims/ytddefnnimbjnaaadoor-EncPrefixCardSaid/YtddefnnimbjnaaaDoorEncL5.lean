/- The walk of the statement EncPrefix. -/
import Derived.Test.YtddefnnimbjnaaaDoorPreW1
import Derived.Test.YtddefnnimbjnaaaDoorStrArgs
import Derived.Test.YtddefnnimbjnaaaDoorEnv
namespace Go.Proofs.YtddefnnimbjnaaaDoor
set_option linter.unusedVariables false
open Go Go.RowKit Go.ChangeShapes

theorem info_str : (Tryd.prog.info? 9).map (fun i => (i.zero, i.size, i.bytes)) = some (some (.string ByteArray.empty), 1, 16) := by kernel_rfl
def longB (l : List ByteArray) : Bool := l.any fun x => decide (100 < x.size)
theorem longB_true : ∀ l : List ByteArray, longB l = true → ∃ (i : Nat) (x : ByteArray), l[i]? = some x ∧ 100 < x.size ∧ ∀ (j : Nat) (y : ByteArray), j < i → l[j]? = some y → y.size ≤ 100
  | [], h => by simp [longB] at h
  | a :: l, h => by
    by_cases ha : 100 < a.size
    · exact ⟨0, a, rfl, ha, fun j y hj => by omega⟩
    · have h2 : longB l = true := by simpa [longB, ha] using h
      obtain ⟨i, x, h4, h5, h6⟩ := longB_true l h2
      refine ⟨i + 1, x, by simpa using h4, h5, ?_⟩
      intro j y hj hy
      cases j with
      | zero => simp at hy; subst hy; omega
      | succ j => exact h6 j y (by omega) (by simpa using hy)
theorem longB_false {l : List ByteArray} (h : longB l = false) : ∀ x ∈ l, x.size ≤ 100 := by
  intro x hx
  have := List.any_eq_false.1 h x hx
  simpa using this

set_option maxRecDepth 100000 in
set_option maxHeartbeats 4000000 in
theorem encPrefix_law {w : World} (v : Value) (l : List ByteArray) (I : IsStrs w v l) (fl : FitsS l) (hL : laidMetH Tryd.prog fullLaid w) :
    Calls Tryd.prog 7 #[v] w fun e w' => e = .returned (.bool true) ∧ Below w.heap.size w w' := by
  obtain ⟨adr, hE⟩ := env_of_laid hL
  obtain ⟨i0, hi, hz0, hz1, hz2⟩ := info_parts info_str
  have HI := Lib.hid I; have HE := Lib.hid hE; have HF := Lib.hid fl.2
  have HC := Lib.hid (fun (w1 : World) (h1 : ErrEnv w1 adr) => show Calls Tryd.prog 27 #[.iface 173 (.pointer (some (adr 2))), .int .i64 2] w1 fun r w' => r = .returned (.bool true) ∧ Below w1.heap.size w1 w' from coded_any (w := w1) (adr := adr) (e := .sent 2) 2 h1 ⟨by decide, by decide, rfl⟩)
  have HPl := Lib.hid (fun (hl : l.length ≤ 20000) (hlo : longB l = true) u w1 (h1 : ErrEnv w1 adr) h2 => show Calls Tryd.prog 26 #[u] w1 fun e w' => e = .returned (.tuple #[.string ⟨#[]⟩, .iface 173 (.pointer (some (adr 2)))]) ∧ Below w1.heap.size w1 w' from by
    obtain ⟨i, x, hx, hn, hP⟩ := longB_true l hlo
    exact prefix_long u l w1 (adr 2) h2 (h1.cell 2 (by decide) (by decide)) hl fl.2 i x hx hn hP)
  have HPo := Lib.hid (fun (hl : l.length ≤ 20000) (hlo : longB l = false) u w1 h2 => prefix_ok u l w1 h2 hl (longB_false hlo))
  have HPO := Lib.hid (fun (hl : l.length ≤ 20000) (hlo : longB l = false) w1 h2 => prefixOf_any v l w1 h2 hl (longB_false hlo))
  have hlm := fl.1
  unfold maxLen at hlm
  obtain ⟨ad, cap, rfl⟩ := I.form
  clear hL hE fl
  clear I
  by_cases h200 : l.length ≤ 200
  rotate_left
  · have d1 : decide ((200 : Int) < (l.length : Int)) = true := by simp; omega
    go_enter Tryd.func7, Tryd.ntmps7
    go_wp2_with fail
    refine (four_any _).mono ?_; rintro e w1 ⟨rfl, hb1⟩
    go_wp2_with fail
    go_ret
    exact ⟨rfl, hb1⟩
  · have d1 : decide ((200 : Int) < (l.length : Int)) = false := by simp; omega
    go_enter Tryd.func7, Tryd.ntmps7
    go_wp2_with fail
    refine (four_any _).mono ?_; rintro e w1 ⟨rfl, hb1⟩
    have Hb1 := Lib.hid hb1
    clear hb1
    go_wp2_with fail
    go_loop [4, 5, 6] (fun n lo i => ∃ (k : Nat) (m : Int), k ≤ l.length ∧ i = .int .i64 (k : Nat) ∧ n = .int .i64 m ∧ -9223372036854775808 ≤ m ∧ m < 9223372036854775808 ∧ lo = .bool (longB (l.take k))) (fun _ _ i => l.length - (intOf i).toNat)
    case atStart => exact ⟨0, 0, Nat.zero_le _, rfl, rfl, by omega, by omega, rfl⟩
    case round =>
      obtain ⟨k, m, hk, rfl, rfl, m0, m1, rfl⟩ := hrel
      by_cases hlt : k < l.length
      · obtain ⟨b0, off, rfl, hq, hlt0, hc⟩ := (HI.out.below Hb1.out (Nat.le_refl _)).at (by omega)
        have hcx := hc k l[k] (List.getElem?_eq_getElem hlt)
        have hox := HF.out l[k] (List.getElem_mem hlt)
        have hn : longB (l.take (k + 1)) = (longB (l.take k) || decide (100 < l[k].size)) := by
          rw [List.take_succ_eq_append_getElem hlt]; unfold longB; rw [List.any_append]; simp
        generalize l[k] = x at *
        unfold maxLen at hox
        have Hn := Lib.hid hn
        clear hq hc hn
        have hin : (k : Int) < (l.length : Int) := by omega
        cases hlo : longB (l.take k)
        · by_cases hx : 100 < x.size
          · have d2 : decide ((100 : Int) < (x.size : Int)) = true := by simp; omega
            have Hx := Lib.hid (show longB (l.take (k + 1)) = true by rw [Hn.out, hlo]; simpa using hx)
            clear hx hlo
            go_wp2_with fail
            go_round
            case rel => exact ⟨k + 1, _, by omega, by go_num, rfl, by unfold wrap64; omega, by unfold wrap64; omega, by rw [Hx.out]⟩
            case measure => simp [intOf]; omega
          · have d2 : decide ((100 : Int) < (x.size : Int)) = false := by simp; omega
            have Hx := Lib.hid (show longB (l.take (k + 1)) = false by rw [Hn.out, hlo]; simpa using hx)
            clear hx hlo
            go_wp2_with fail
            go_round
            case rel => exact ⟨k + 1, _, by omega, by go_num, rfl, by unfold wrap64; omega, by unfold wrap64; omega, by rw [Hx.out]⟩
            case measure => simp [intOf]; omega
        · have Hx := Lib.hid (show longB (l.take (k + 1)) = true by rw [Hn.out, hlo]; rfl)
          clear hlo
          go_wp2_with fail
          go_round
          case rel => exact ⟨k + 1, _, by omega, by go_num, rfl, by unfold wrap64; omega, by unfold wrap64; omega, by rw [Hx.out]⟩
          case measure => simp [intOf]; omega
      · obtain rfl : k = l.length := by omega
        rw [List.take_length]
        by_cases h8 : 8000 < m
        · go_wp2_with fail
          go_ret
          exact ⟨rfl, Hb1.out⟩
        · have hl2 : l.length ≤ 20000 := by omega
          have Hap : Hid (∀ (b0 off : Nat), ad = some ⟨b0, off, none⟩ → (∀ (j : Nat) (x : ByteArray), l[j]? = some x → w1.cell? ⟨b0, off + j, none⟩ = some (.string x)) → ∀ (j : Nat) (u : Value), (l.map strV)[j]? = some u → w1.cell? ((⟨b0, off, none⟩ : Addr).add j) = some u) := fun b0 off _ hc j u hj => by
            rw [List.getElem?_map] at hj
            cases hlj : l[j]? with
            | none => simp [hlj] at hj
            | some x =>
              simp [hlj] at hj
              subst hj
              rw [Go.WideShapes.add_plain]; exact hc j x hlj
          have hnil : ∀ w5, IsStrs w5 (.slice none 0 0) [] := fun w5 => .inl ⟨rfl, none, 0, rfl⟩
          have Hnil := Lib.hid hnil
          clear hnil
          rcases HI.out.below Hb1.out (Nat.le_refl _) with ⟨hl0, ad', cap', he⟩ | ⟨b, off, cap', he, hlt1, hc⟩
          · subst hl0
            have HLo := Lib.hid (show longB [] = false from rfl)
            have hlo : longB [] = false := rfl
            have hb5 := Hb1.out
            have Hu := Lib.hid (Hnil.out w1)
            cases ad with
            | none =>
              go_wp2_with fail
              refine (HPo.out hl2 HLo.out _ _ Hu.out).mono ?_; rintro e w6 ⟨rfl, hb6⟩
              have hb6 := below_trans hb5 hb6
              go_wp2_with fail
              refine (HPO.out hl2 HLo.out w6 (HI.out.below hb6 (Nat.le_refl _))).mono ?_; rintro e w7 ⟨rfl, hb7⟩
              go_wp2_with fail
              go_ret
              exact ⟨ret_of (by simp), below_trans hb6 hb7⟩
            | some a0 =>
              go_wp2_with fail
              refine (HPo.out hl2 HLo.out _ _ Hu.out).mono ?_; rintro e w6 ⟨rfl, hb6⟩
              have hb6 := below_trans hb5 hb6
              go_wp2_with fail
              refine (HPO.out hl2 HLo.out w6 (HI.out.below hb6 (Nat.le_refl _))).mono ?_; rintro e w7 ⟨rfl, hb7⟩
              go_wp2_with fail
              go_ret
              exact ⟨ret_of (by simp), below_trans hb6 hb7⟩
          · injection he with e1 e2 e3
            subst e1 e3
            have HA := Lib.hid (Hap.out b off rfl hc)
            clear hc e2
            go_wp2_with (at_builtin; refine wpList_append_own _ rfl _ _ 43 rfl w1.heap.size 9 i0 (.string ByteArray.empty) 1 16 Tryd.underlying43 hi hz0 hz1 hz2 rfl (by decide) _ 0 [] rfl (World.ownsRow_nil _ _ _ _) ⟨b, off, none⟩ l.length cap (l.map strV) rfl (by simp) HA.out (one_map (fun _ => rfl) l) (by unfold maxLen; omega) (by omega) (Nat.le_refl _) ?_)
            intro v' w5 hown' hgrow _
            have hu : IsStrs w5 v' l := IsStrs.of_own (B := w1.heap.size) (e := 9) (by simpa using hown')
            have hb5 : Below w.heap.size w w5 := Hb1.out.trans (((Below.refl w1.heap.size w1).grown hgrow (Nat.le_refl _) (fun k hk => by simp [Value.ownBlock] at hk)).mono Hb1.out.size)
            have Hu := Lib.hid hu
            clear hown' hgrow hu
            cases hlo : longB l
            · have HLo := Lib.hid hlo
              go_wp2_with fail
              refine (HPo.out hl2 HLo.out _ _ Hu.out).mono ?_; rintro e w6 ⟨rfl, hb6⟩
              have hb6 := below_trans hb5 hb6
              go_wp2_with fail
              refine (HPO.out hl2 HLo.out w6 (HI.out.below hb6 (Nat.le_refl _))).mono ?_; rintro e w7 ⟨rfl, hb7⟩
              go_wp2_with fail
              go_ret
              exact ⟨ret_of (by simp), below_trans hb6 hb7⟩
            · have HLo := Lib.hid hlo
              go_wp2_with fail
              refine (HPl.out hl2 HLo.out _ _ (HE.out.below hb5) Hu.out).mono ?_; rintro e w6 ⟨rfl, hb6⟩
              have hb6 := below_trans hb5 hb6
              go_wp2_with fail
              refine (HC.out w6 (HE.out.below hb6)).mono ?_; rintro e w7 ⟨rfl, hb7⟩
              go_wp2_with fail
              go_ret
              exact ⟨ret_of (by simp), below_trans hb6 hb7⟩
end Go.Proofs.YtddefnnimbjnaaaDoor
