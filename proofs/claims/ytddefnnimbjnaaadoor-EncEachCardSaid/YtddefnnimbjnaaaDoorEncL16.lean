/- The walk of the statement EncEach, whole. -/
import Derived.Test.YtddefnnimbjnaaaDoorEncL13
import Derived.Test.YtddefnnimbjnaaaDoorEncL14
import Derived.Test.YtddefnnimbjnaaaDoorEncL15
namespace Go.Proofs.YtddefnnimbjnaaaDoor
set_option linter.unusedVariables false
open Go Go.RowKit Go.ChangeShapes

theorem conv_opt (adr : Nat → Addr) (r : Option (List Val)) (hr : ∀ l, r = some l → l.length ≤ 20000) : ∃ (l : List Val) (g : GErr) (ec : Nat), (ec = 0 ∧ g = .nil ∨ ec = 1 ∧ g = .sent 1 ∧ l = []) ∧ l.length ≤ 20000 ∧
    (∀ e w' B, RdRet (.iface 173 (.pointer (some (adr 1)))) B r e w' → ∃ x ev, e = .returned (.tuple #[x, ev]) ∧ IsVals w' x l ∧ IsErr w' adr g ev) ∧
    (∀ e w' B, BfRet B r e w' → ∃ y, e = .returned (.tuple #[y, .int .i64 (ec : Nat)]) ∧ IsVals w' y l) := by
  cases r with
  | none =>
    refine ⟨[], .sent 1, 1, .inr ⟨rfl, rfl, rfl⟩, Nat.zero_le _, fun e w' B h => ⟨_, _, h, .inl ⟨rfl, none, 0, rfl⟩, ⟨by decide, by decide, rfl⟩⟩, fun e w' B h => ⟨_, h, .inl ⟨rfl, none, 0, rfl⟩⟩⟩
  | some l =>
    refine ⟨l, .nil, 0, .inl ⟨rfl, rfl⟩, hr l rfl, fun e w' B h => ?_, fun e w' B h => ?_⟩
    · obtain ⟨u, h1, h2⟩ := h
      exact ⟨u, _, h1, IsVals.of_own h2, rfl⟩
    · obtain ⟨u, h1, h2⟩ := h
      exact ⟨u, h1, IsVals.of_own h2⟩
theorem encEach_law (kind : Int) (_k0 : -9223372036854775808 ≤ kind) (_k1 : kind < 9223372036854775808) (s : ByteArray) (hs : s.size ≤ maxLen) (n : Int) (_n0 : -9223372036854775808 ≤ n) (_n1 : n < 9223372036854775808) (w : World)
    (hL : laidMetH Tryd.prog fullLaid w) :
    Calls Tryd.prog 13 #[.int .i64 kind, .string s, .int .i64 n] w fun e w' => e = .returned (.bool true) ∧ Below w.heap.size w w' := by
  obtain ⟨adr, hE⟩ := env_of_laid hL
  by_cases he : 1000 < s.size ∨ 300 < n ∧ n ≤ 20000
  · exact encEach_early kind s n w he hs
  · by_cases hm : manyErr kind n = .nil
    · obtain ⟨h1, h5, hn0, hn2⟩ := manyErr_nil11 hm
      have hn : n ≤ 300 := by omega
      have hs1 : s.size ≤ 1000 := by omega
      obtain ⟨m, rfl⟩ : ∃ m : Nat, n = (m : Int) := ⟨n.toNat, by omega⟩
      have hc : ∀ w1, ErrEnv w1 adr → w1.cell? ⟨1, 0, none⟩ = some (.iface 173 (.pointer (some (adr 1)))) := fun w1 h => h.cell 1 (by decide) (by decide)
      obtain ⟨l0, g0, ec0, z0, hl0, a0, b0⟩ := conv_opt adr (readP kind s.data.toList m) (fun l hl => by have := (readP_inv h1 h5 hl).2.1; omega)
      obtain ⟨l1, g1, ec1, z1, hl1, a1, b1⟩ := conv_opt adr (readDi kind s.data.toList m) (fun l hl => readDi_len hl (by omega))
      have A0 := fun w1 (h : ErrEnv w1 adr) => (readPlain_any kind s m _ _ w1 h1 h5 (by omega) (by omega) (hc w1 h)).mono fun e w' hh => (⟨a0 e w' _ hh.1, hh.2⟩ : (∃ x ev, e = .returned (.tuple #[x, ev]) ∧ IsVals w' x l0 ∧ IsErr w' adr g0 ev) ∧ Below w1.heap.size w1 w')
      have A1 := fun w1 (h : ErrEnv w1 adr) => (readDict_any kind s m _ _ w1 h1 h5 (by omega) (by omega) (hc w1 h)).mono fun e w' hh => (⟨a1 e w' _ hh.1, hh.2⟩ : (∃ x ev, e = .returned (.tuple #[x, ev]) ∧ IsVals w' x l1 ∧ IsErr w' adr g1 ev) ∧ Below w1.heap.size w1 w')
      have O0 := fun w1 => (readBestOf_0 kind s m _ w1 (readPlainOf_any kind s m w1 h1 h5 (by omega) (by omega))).mono fun e w' hh => (⟨b0 e w' _ hh.1, hh.2⟩ : (∃ y, e = .returned (.tuple #[y, .int .i64 (ec0 : Nat)]) ∧ IsVals w' y l0) ∧ Below w1.heap.size w1 w')
      have O1 := fun w1 => (readBestOf_1 kind s m _ w1 (readDictOf_any kind s m w1 h1 h5 (by omega) (by omega))).mono fun e w' hh => (⟨b1 e w' _ hh.1, hh.2⟩ : (∃ y, e = .returned (.tuple #[y, .int .i64 (ec1 : Nat)]) ∧ IsVals w' y l1) ∧ Below w1.heap.size w1 w')
      have HXc := fun w1 (h : ErrEnv w1 adr) => readPrefix_any s m _ _ w1 (by omega) (by omega) (hc w1 h)
      have HXo := fun w1 => readPrefixOf_any s m w1 (by omega) (by omega)
      by_cases hk : kind = 2 ∨ kind = 3
      · obtain ⟨l2, g2, ec2, z2, hl2, a2, b2⟩ := conv_opt adr (readD kind s.data.toList m) (fun l hl => by have := (readD_inv hk hl).2.1; omega)
        have A2 := fun w1 (h : ErrEnv w1 adr) => (readDelta_any kind hk s m _ _ w1 adr (h.errs.sub rfl) (by omega) (by omega) (hc w1 h)).mono fun e w' hh => (⟨a2 e w' _ hh.1, hh.2⟩ : (∃ x ev, e = .returned (.tuple #[x, ev]) ∧ IsVals w' x l2 ∧ IsErr w' adr g2 ev) ∧ Below w1.heap.size w1 w')
        have O2 := fun w1 => (readBestOf_2 kind hk s m _ w1 (readDeltaOf_any kind hk s m w1 (by omega) (by omega))).mono fun e w' hh => (⟨b2 e w' _ hh.1, hh.2⟩ : (∃ y, e = .returned (.tuple #[y, .int .i64 (ec2 : Nat)]) ∧ IsVals w' y l2) ∧ Below w1.heap.size w1 w')
        rcases hk with hk' | hk'
        · exact encEach_good2 kind hk' s m w adr hE hs1 (by omega) hm l0 l1 l2 g0 g1 g2 ec0 ec1 ec2 hl0 hl1 hl2 z0 z1 (z2.elim .inl fun h => .inr (.inl h)) (fun h => by omega) A0 A1 A2 O0 O1 O2 _ HXc HXo
        · exact encEach_good3 kind hk' s m w adr hE hs1 (by omega) hm l0 l1 l2 g0 g1 g2 ec0 ec1 ec2 hl0 hl1 hl2 z0 z1 (z2.elim .inl fun h => .inr (.inl h)) (fun h => by omega) A0 A1 A2 O0 O1 O2 _ HXc HXo
      · have A2 := fun w1 (h : ErrEnv w1 adr) => (readDelta_kind kind (m : Int) s w1 adr (h.errs.sub rfl) (fun h => hk (.inl h)) (fun h => hk (.inr h))).mono fun e w' hh => (⟨⟨_, _, hh.1, .inl ⟨rfl, none, 0, rfl⟩, ⟨by decide, by decide, rfl⟩⟩, hh.2⟩ : (∃ x ev, e = .returned (.tuple #[x, ev]) ∧ IsVals w' x [] ∧ IsErr w' adr (.sent 4) ev) ∧ Below w1.heap.size w1 w')
        have O2 := fun w1 => (readBestOf_shape kind 2 s m w1 (by decide) (by decide) (fun h => hk h.2) (fun h => absurd h.1 (by decide))).mono fun e w' hh => (⟨⟨_, hh.1, .inl ⟨rfl, none, 0, rfl⟩⟩, hh.2⟩ : (∃ y, e = .returned (.tuple #[y, .int .i64 ((3 : Nat) : Int)]) ∧ IsVals w' y []) ∧ Below w1.heap.size w1 w')
        exact encEach_goodo kind (fun h => hk (.inl h)) (fun h => hk (.inr h)) s m w adr hE hs1 (by omega) hm l0 l1 [] g0 g1 (.sent 4) ec0 ec1 3 hl0 hl1 (Nat.zero_le _) z0 z1 (.inr (.inr ⟨rfl, rfl, rfl⟩)) (fun _ => rfl) A0 A1 A2 O0 O1 O2 _ HXc HXo
    · by_cases hk : kind = 2 ∨ kind = 3
      · have hb := manyErr_bad hm
        exact encEach_many kind s n w adr hE (by omega) (by omega) hm (manyErr kind n) (fun h => by omega)
          (fun w1 h => (readDelta_err kind hk n s w1 adr (h.errs.sub rfl) (by omega)).mono fun e w' hh => ⟨hh.1, by rw [hh.2]; exact Below.refl _ _⟩)
      · exact encEach_many kind s n w adr hE (by omega) (by omega) hm (.sent 4) (fun _ => rfl)
          (fun w1 h => (readDelta_kind kind n s w1 adr (h.errs.sub rfl) (fun h => hk (.inl h)) (fun h => hk (.inr h))).mono fun e w' hh => ⟨⟨_, hh.1, ⟨by decide, by decide, rfl⟩⟩, hh.2⟩)
end Go.Proofs.YtddefnnimbjnaaaDoor
