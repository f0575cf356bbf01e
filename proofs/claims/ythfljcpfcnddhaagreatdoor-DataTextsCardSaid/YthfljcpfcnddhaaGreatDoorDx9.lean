/- The walk of data.value, every kind; the text of a right record, by program and by document. -/
import Derived.Test.YthfljcpfcnddhaaGreatDoorDx2
import Derived.Test.YthfljcpfcnddhaaGreatDoorDx3
import Derived.Test.YthfljcpfcnddhaaGreatDoorDx5
import Derived.Test.YthfljcpfcnddhaaGreatDoorDx6
import Derived.Test.YthfljcpfcnddhaaGreatDoorDx7
import Derived.Test.YthfljcpfcnddhaaGreatDoorDx8
import Derived.Lib.SmallJoins
namespace Go.Proofs.YthfljcpfcnddhaaGreatDoor
set_option linter.unusedVariables false
set_option linter.unusedSimpArgs false
open Go Go.RowKit Go.ChangeShapes

/-- the two tables that a value's text leans on -/
def Tabs (w : World) : Prop := Lib.TabIs Tryz.prog w "math/bits.deBruijn64tab" .u8 deb64 ∧ Lib.TabIs Tryz.prog w "internal/strconv.uint64pow10" .u64 Lib.pow10Tab
theorem tab_on {w w' : World} {n : String} {k : IntKind} {zs : List Int} {g : Nat} (hg : Tryz.prog.globalNamed n = some g) (h : Lib.TabIs Tryz.prog w n k zs) (hb : Below w.heap.size w w') : Lib.TabIs Tryz.prog w' n k zs :=
  Go.Joins.tab_stays hg h hb (Nat.le_refl _)
theorem Tabs.on {w w' : World} (h : Tabs w) (hb : Below w.heap.size w w') : Tabs w' :=
  ⟨tab_on (by rfl) h.1 hb, tab_on (by rfl) h.2 hb⟩
theorem growW_below (w : World) (k : Nat) (os : Array Obj) : Below w.heap.size w (Go.Sort.grow (w.drewN k) os) :=
  ⟨rfl, rfl, rfl, by simp [Go.Sort.grow, World.drewN], fun j hj => by simp only [Go.Sort.grow, World.drewN]; rw [Array.getElem?_append_left hj]⟩
theorem repL (c : Nat) : Lib.repeatL [48] c = List.replicate c 48 := by
  induction c with
  | zero => rfl
  | succ c ih => rw [Lib.repeatL, ih, List.replicate_succ]; rfl

set_option maxRecDepth 100000 in
set_option maxHeartbeats 8000000 in
theorem value_any (x : Val) (hx : okB x.k x = true) (hn0 : -9223372036854775808 ≤ x.n) (hn1 : x.n ≤ 9223372036854775807) (w : World) (hT : Tabs w) : Calls Tryz.prog 61 #[.agg (valA x)] w (TextRet (valT x) w) := by
  by_cases h1 : x.k = 1
  · have h := value_bool x w h1
    have e : boolT x = valT x := by
      unfold boolT valT boolL
      rw [if_pos h1]
      by_cases hn : x.n = 1
      · rw [if_pos hn, decide_eq_true hn]; rfl
      · rw [if_neg hn, decide_eq_false hn]; rfl
    rwa [e] at h
  have hok := (okB_iff x.k x).1 hx
  have dk1 : ((x.k : Int) == 1) = false := by simpa using h1
  have HW := Lib.hid ((Below.refl w.heap.size w).alloc (Nat.le_refl _) (.cells (valA x) 26))
  have hT1 := hT.on HW.out
  unfold valT
  rw [if_neg h1]
  by_cases h4 : x.k = 4
  · have dk : ((x.k : Int) == 4) = true := by rw [h4]; rfl
    obtain ⟨-, hs100⟩ := hok.text h4
    have HQ := Lib.hid (fun w1 => quoted_any x.s hs100 w1)
    rw [if_pos h4]
    unfold valA at *
    clear h1 h4 hok hx hT hT1
    go_enter Tryz.func61, Tryz.ntmps61
    go_wp2_with fail
    refine (HQ.out _).mono ?_; rintro e w4 ⟨rfl, hb4⟩
    go_wp2_with fail
    go_ret
    exact ⟨rfl, HW.out.trans (hb4.mono HW.out.size)⟩
  have dk4 : ((x.k : Int) == 4) = false := by simpa using h4
  rw [if_neg h4]
  by_cases h5 : x.k = 5
  · have dk : ((x.k : Int) == 5) = true := by rw [h5]; rfl
    rw [if_pos h5]
    obtain ⟨n, hn⟩ : ∃ n, x.n = n := ⟨_, rfl⟩
    rw [hn]
    obtain ⟨U, hU⟩ : ∃ U : Nat, n % 18446744073709551616 = (U : Int) := ⟨(n % 18446744073709551616).toNat, by omega⟩
    have hUb : U < 18446744073709551616 := by omega
    have hl16 := hexN_len16 hUb
    have hl1 := hexN_pos U
    have hUU := hexU_hexN 15 U (by have h2 : (16 : Nat) ^ (15 + 1) = 18446744073709551616 := by decide
                                   rw [h2]; exact hUb)
    rw [hU, Int.toNat_natCast, hUU]
    have HF := Lib.hid (fun w1 (h : Tabs w1) => formatUint_any U hUb w1 h.1)
    obtain ⟨D, hD⟩ : ∃ D, hexN U = D := ⟨_, rfl⟩
    rw [hD] at HF hl16 hl1 ⊢
    have HR := Lib.hid (fun w1 => show Calls Tryz.prog 95 #[.string ⟨#[48]⟩, .int .i64 ((16 - D.length : Nat) : Int)] w1 (fun e w' => e = .returned (.string ⟨(List.replicate (16 - D.length) (48 : UInt8)).toArray⟩) ∧ Below w1.heap.size w1 w') by
      have h := Tryz.strings_Repeat ⟨#[48]⟩ (16 - D.length) w1 (by omega) (by show 1 * _ ≤ _; omega)
      rw [show Lib.repeatL (⟨#[48]⟩ : ByteArray).data.toList (16 - D.length) = List.replicate (16 - D.length) 48 from repL _] at h
      exact h)
    have hs1 : ¬ 9223372036854775807 < 1 + (16 - D.length) := by omega
    have hs2 : ¬ 9223372036854775807 < 1 + (16 - D.length) + D.length := by omega
    have hwu : IntKind.u64.wrap n = (U : Int) := by rw [IntKind.wrap_u64, hU]
    have HT1 := Lib.hid hT1
    unfold valA at *
    rw [hn] at HW HT1
    unfold TextRet strV
    rw [hn]
    unfold TextRet strV at HF
    clear h1 h4 hok hx h5 hn hn0 hn1 hT hT1 hU hUb hUU hD
    go_enter Tryz.func61, Tryz.ntmps61
    go_wp2_with fail
    refine (HF.out _ HT1.out).mono ?_; rintro e w4 ⟨rfl, hb4⟩
    go_wp2_with fail
    rw [show (16 - (D.length : Int)) = ((16 - D.length : Nat) : Int) by omega]
    refine (HR.out _).mono ?_; rintro e w5 ⟨rfl, hb5⟩
    go_wp2_with fail
    go_ret
    refine ⟨congrArg (fun s => Ending.returned (Value.string s)) ?_, HW.out.trans ((hb4.trans (hb5.mono hb4.size)).mono HW.out.size)⟩
    rw [show (⟨#[120]⟩ : ByteArray) = ⟨[120].toArray⟩ from rfl, ba_app, ba_app]
    simp
  have dk5 : ((x.k : Int) == 5) = false := by simpa using h5
  rw [if_neg h5]
  obtain ⟨n, hn⟩ : ∃ n, x.n = n := ⟨_, rfl⟩
  rw [hn] at hn0 hn1 ⊢
  have HD := Lib.hid (fun w1 (h : Tabs w1) => Tryz.strconv_FormatInt_10 n hn0 hn1 w1 h.2)
  have HT1 := Lib.hid hT1
  unfold valA at *
  rw [hn] at HW HT1 ⊢
  clear h1 h4 h5 hok hx hn hn0 hn1 hT hT1
  go_enter Tryz.func61, Tryz.ntmps61
  go_wp2_with fail
  refine (HD.out _ HT1.out).mono ?_; rintro e w4 ⟨rfl, k, os, rfl⟩
  go_wp2_with fail
  go_ret
  exact ⟨rfl, HW.out.trans ((growW_below _ k os).mono HW.out.size)⟩
end Go.Proofs.YthfljcpfcnddhaaGreatDoor
