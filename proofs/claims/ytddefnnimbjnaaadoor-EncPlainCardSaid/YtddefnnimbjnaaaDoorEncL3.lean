/- The walk of the statement EncWords. -/
import Derived.Test.YtddefnnimbjnaaaDoorEncW5
import Derived.Test.YtddefnnimbjnaaaDoorValArgs
import Derived.Test.YtddefnnimbjnaaaDoorErrsAt
namespace Go.Proofs.YtddefnnimbjnaaaDoor
set_option linter.unusedVariables false
open Go Go.RowKit Go.ChangeShapes

/-- Plain's answer: a text, and no error or one -/
def PlainR (kind : Int) (l : List Val) (e : Ending) : Prop :=
  (valsErr kind l = .nil ∧ e = .returned (.tuple #[.string ⟨(plainB kind l).toArray⟩, .nilIface])) ∨
  (valsErr kind l ≠ .nil ∧ ∃ T a, e = .returned (.tuple #[.string ⟨#[]⟩, .iface T (.pointer (some a))]) ∧ (T = 173 ∨ T = 115))
theorem Plain_any (kind : Int) (v : Value) (l : List Val) (w : World) (adr : Nat → Addr) (hE : ErrsAt w adr [2, 4]) (hI : IsVals w v l) (hO : ∀ x ∈ l, x.Ok) :
    Calls Tryd.prog 17 #[.int .i64 kind, v] w fun e w' => PlainR kind l e ∧ Below w.heap.size w w' := by
  by_cases hn : valsErr kind l = .nil
  · exact (Plain_ok kind v l w adr hE hI hO hn).mono fun e w' ⟨h1, h2⟩ => ⟨.inl ⟨hn, h1⟩, h2⟩
  · refine (Plain_err kind v l w adr hE hI hO hn).mono ?_
    rintro e w' ⟨⟨u, rfl, hu⟩, hb⟩
    obtain ⟨T, a, rfl, hT⟩ := hu.some' hn
    exact ⟨.inr ⟨hn, T, a, rfl, hT⟩, hb⟩

theorem words_eq {kind : Int} {a b : List Val} (fa : FitsV a) (fb : FitsV b) (na : valsErr kind a = .nil) (nb : valsErr kind b = .nil) (hl : a.length = b.length) :
    (plainB kind a == plainB kind b) = sameB a b := by
  obtain ⟨_, _, _, pa⟩ := valsErr_nil na
  obtain ⟨_, _, _, pb⟩ := valsErr_nil nb
  rw [Bool.eq_iff_iff, beq_iff_eq, sameB_iff]
  constructor
  · intro h
    exact plain_inj a b fa.2 fb.2 pa pb hl h
  · intro h; rw [h]

set_option maxRecDepth 100000 in
set_option maxHeartbeats 2000000 in
theorem encWords_law {w : World} (kind : Int) (k0 : -9223372036854775808 ≤ kind) (k1 : kind < 9223372036854775808) (v : Value) (a : List Val) (I : IsVals w v a) (fa : FitsV a) (u : Value) (b : List Val) (J : IsVals w u b) (fb : FitsV b)
    (hL : laidMetH Tryd.prog Rows.encWordsRow.laid w) :
    Calls Tryd.prog 3 #[.int .i64 kind, v, u] w fun e w' => e = .returned (.bool true) ∧ Below w.heap.size w w' := by
  obtain ⟨adr, hE⟩ := errsAt_of_laid [2, 4] rfl hL
  have HI := Lib.hid I; have HJ := Lib.hid J; have HE := Lib.hid hE; have HFa := Lib.hid fa; have HFb := Lib.hid fb
  have HSa := Lib.hid (fun w1 h => small_any v a w1 h fa.1 fa.2)
  have HSb := Lib.hid (fun w1 h => small_any u b w1 h fb.1 fb.2)
  have HVa := Lib.hid (fun (h : a.length ≤ 300) w1 h1 => values_any v a w1 h1 (by omega))
  have HVb := Lib.hid (fun (h : b.length ≤ 300) w1 h1 => values_any u b w1 h1 (by omega))
  have HPa := Lib.hid (fun x w1 h1 h2 => Plain_any kind x a w1 adr h1 h2 fa.2)
  have HPb := Lib.hid (fun x w1 h1 h2 => Plain_any kind x b w1 adr h1 h2 fb.2)
  have HM := Lib.hid (fun w1 h1 h2 => sameValues_any v u a b w1 h1 h2 fa.1 fb.1)
  have la := fa.1
  have lb := fb.1
  unfold maxLen at la lb
  obtain ⟨ad, cap, rfl⟩ := I.form
  obtain ⟨ad', cap', rfl⟩ := J.form
  clear hL hE fa fb
  clear I J
  go_enter Tryd.func3, Tryd.ntmps3
  go_wp2_with fail
  refine (four_any _).mono ?_; rintro e w1 ⟨rfl, hb1⟩
  go_wp2_with fail
  refine (HSa.out w1 (HI.out.below hb1 (Nat.le_refl _))).mono ?_; rintro e w1 ⟨⟨sa, rfl, hsa⟩, rfl⟩
  cases sa with
  | false =>
    go_wp2_with fail
    go_ret
    exact ⟨rfl, hb1⟩
  | true =>
  have ha := hsa rfl
  clear hsa
  go_wp2_with fail
  refine (HSb.out w1 (HJ.out.below hb1 (Nat.le_refl _))).mono ?_; rintro e w1 ⟨⟨sb, rfl, hsb⟩, rfl⟩
  cases sb with
  | false =>
    go_wp2_with fail
    go_ret
    exact ⟨rfl, hb1⟩
  | true =>
  have hb := hsb rfl
  clear hsb
  by_cases hl : a.length = b.length
  rotate_left
  · have d1 : ((a.length : Int) != (b.length : Int)) = true := by simp; omega
    go_wp2_with fail
    go_ret
    exact ⟨rfl, hb1⟩
  · have d1 : ((a.length : Int) != (b.length : Int)) = false := by rw [hl]; simp
    have Hl := Lib.hid hl
    clear hl
    go_wp2_with fail
    refine (HVa.out ha _ (HI.out.below hb1 (Nat.le_refl _))).mono ?_; rintro e w2 ⟨⟨x, rfl, hx⟩, hb2⟩
    have hb2 := below_trans hb1 hb2
    have Hx := Lib.hid hx
    clear hb1 hx
    go_wp2_with fail
    refine (HPa.out x w2 (HE.out.below hb2) Hx.out).mono ?_; rintro e w3 ⟨hr, hb3⟩
    have hb3 := below_trans hb2 hb3
    clear hb2
    rcases hr with ⟨na, rfl⟩ | ⟨na, T, q, rfl, hT⟩
    · have Na := Lib.hid na
      clear na
      go_wp2_with fail
      refine (HVb.out hb _ (HJ.out.below hb3 (Nat.le_refl _))).mono ?_; rintro e w4 ⟨⟨y, rfl, hy⟩, hb4⟩
      have hb4 := below_trans hb3 hb4
      have Hy := Lib.hid hy
      clear hb3 hy
      go_wp2_with fail
      refine (HPb.out y w4 (HE.out.below hb4) Hy.out).mono ?_; rintro e w5 ⟨hr, hb5⟩
      have hb5 := below_trans hb4 hb5
      clear hb4
      rcases hr with ⟨nb, rfl⟩ | ⟨nb, T, q, rfl, hT⟩
      · have Nb := Lib.hid nb
        clear nb
        have Hw := Lib.hid (words_eq HFa.out HFb.out Na.out Nb.out Hl.out)
        generalize plainB kind a = pa at *
        generalize plainB kind b = pb at *
        go_wp2_with fail
        refine (HM.out w5 (HI.out.below hb5 (Nat.le_refl _)) (HJ.out.below hb5 (Nat.le_refl _))).mono ?_; rintro e w6 ⟨rfl, hb6⟩
        go_wp2_with fail
        go_ret
        exact ⟨ret_of (by
          show Value.bool (_ == sameB a b) = _
          rw [Hw.out]; simp), below_trans hb5 hb6⟩
      · clear nb
        rcases hT with rfl | rfl
        all_goals
          go_wp2_with fail
          go_ret
          exact ⟨rfl, hb5⟩
    · clear na
      rcases hT with rfl | rfl
      all_goals
        go_wp2_with fail
        refine (HVb.out hb _ (HJ.out.below hb3 (Nat.le_refl _))).mono ?_; rintro e w4 ⟨⟨y, rfl, hy⟩, hb4⟩
        have hb4 := below_trans hb3 hb4
        have Hy := Lib.hid hy
        clear hb3 hy
        go_wp2_with fail
        refine (HPb.out y w4 (HE.out.below hb4) Hy.out).mono ?_; rintro e w5 ⟨hr, hb5⟩
        have hb5 := below_trans hb4 hb5
        clear hb4
        rcases hr with ⟨nb, rfl⟩ | ⟨nb, T, q, rfl, hT⟩
        · clear nb
          go_wp2_with fail
          go_ret
          exact ⟨rfl, hb5⟩
        · clear nb
          rcases hT with rfl | rfl
          all_goals
            go_wp2_with fail
            go_ret
            exact ⟨rfl, hb5⟩
end Go.Proofs.YtddefnnimbjnaaaDoor
