/- Chapter 3 in plain Lean: what values bytes are, by unlike ones and their places. -/
import Derived.Test.YtpbkmfnfcdhhjaaDoorRead1
import Derived.Test.YtpbkmfnfcdhhjaaDoorMDict
import Derived.Test.YtpbkmfnfcdhhjaaDoorMPlain
import Derived.Test.YtpbkmfnfcdhhjaaDoorMDel
namespace Go.Proofs.YtpbkmfnfcdhhjaaDoor
set_option linter.unusedVariables false
open Go

def zeroV : Val := ⟨0, 0, ⟨#[]⟩⟩
/-- n values, by unlike ones and their places, and nothing else -/
def readDi (kind : Int) (s : List UInt8) (n : Nat) : Option (List Val) :=
  match readU s with
  | none => none
  | some (many, u) => if n < many then none else match readT (s.drop u) with
    | none => none
    | some (t, m) => match readP kind t many with
      | none => none
      | some us => match readR (placeW many) n ((s.drop u).drop m) with
        | none => none
        | some (ps, k) => if k = ((s.drop u).drop m).length ∧ (∀ p ∈ ps, p < us.length) ∧ sameB (unlikeV [] (ps.map fun p => us.getD p zeroV)) us = true then some (ps.map fun p => us.getD p zeroV) else none

/-- plain values, read -/
theorem readP_inv {kind : Int} (h1 : 1 ≤ kind) (h5 : kind ≤ 5) {s : List UInt8} {n : Nat} {l : List Val} (h : readP kind s n = some l) :
    plainB kind l = s ∧ l.length = n ∧ (∀ x ∈ l, x.Ok) ∧ ∀ x ∈ l, OkP kind x := by
  unfold readP at h
  by_cases h4 : kind = 4
  · subst h4
    rw [if_pos rfl] at h
    exact readTs_inv n s l h
  · rw [if_neg h4] at h
    split at h
    · rename_i hc
      obtain rfl := Option.some.inj h
      have hg := getAll_lt (unlittle s) (wdOf kind) n
      have hn : numsOf (wdOf kind) ((getAll (unlittle s) (wdOf kind) n).map (numV kind)) = getAll (unlittle s) (wdOf kind) n := by
        unfold numsOf
        rw [List.map_map]
        refine (List.map_congr_left fun x hx => ?_).trans (List.map_id' _)
        have hx' := hg x hx
        have hx2 : (kind = 2 → x < 4294967296) ∧ x < 18446744073709551616 := by
          have e32 : (2 : Nat) ^ 32 = 4294967296 := by decide
          have e64 : (2 : Nat) ^ 64 = 18446744073709551616 := by decide
          unfold wdOf at hx'
          by_cases c1 : kind = 1
          · rw [if_pos c1, Nat.pow_one] at hx'; omega
          · rw [if_neg c1] at hx'
            by_cases c2 : kind = 2
            · rw [if_pos c2, e32] at hx'; omega
            · rw [if_neg c2, e64] at hx'; omega
        show uN (numV kind x) % 2 ^ wdOf kind = x
        rw [uN_num kind x hx2.1 hx2.2, Nat.mod_eq_of_lt hx']
      refine ⟨?_, by rw [List.length_map, getAll_len], fun x hx => ?_, fun x hx => ?_⟩
      · unfold plainB
        rw [if_neg h4, hn]
        refine (packed_getAll s _ n hc.1).2 ?_
        by_cases c1 : kind = 1
        · have := hc.2 c1
          unfold wdOf
          rwa [if_pos c1, Nat.mul_one]
        · have hlt := unlittle_lt s
          have h8 : n * wdOf kind = 8 * s.length := by
            have h8 := hc.1
            unfold wdOf at h8 ⊢
            rw [if_neg c1] at h8 ⊢
            split at h8 <;> simp_all <;> omega
          rw [h8, pow256]
          exact hlt
      · obtain ⟨y, hy, rfl⟩ := List.mem_map.1 hx
        exact (num_ok kind y h1 h5 h4 (hg y hy)).1
      · obtain ⟨y, hy, rfl⟩ := List.mem_map.1 hx
        exact (num_ok kind y h1 h5 h4 (hg y hy)).2
    · cases h
/-- plain values are read -/
theorem readP_plain {kind : Int} (h1 : 1 ≤ kind) (h5 : kind ≤ 5) (l : List Val) (hO : ∀ x ∈ l, x.Ok) (hP : ∀ x ∈ l, OkP kind x) : readP kind (plainB kind l) l.length = some l := by
  by_cases h4 : kind = 4
  · subst h4
    exact readTs_texts l hP
  · have hl : (numsOf (wdOf kind) l).length = l.length := by simp [numsOf]
    have hlen : (plainB kind l).length = (l.length * wdOf kind + 7) / 8 := by
      unfold plainB
      rw [if_neg h4, packed, bytesOf_len, hl]
    have hpk : plainB kind l = packed (wdOf kind) (numsOf (wdOf kind) l) := by unfold plainB; rw [if_neg h4]
    have hg := getAll_packed (wdOf kind) (numsOf (wdOf kind) l) (numsOf_lt _ _) []
    rw [List.append_nil, ← hpk, hl] at hg
    have hc : kind = 1 → unlittle (plainB kind l) < 2 ^ l.length := by
      intro c1
      have h := (packed_getAll (plainB kind l) (wdOf kind) l.length hlen).1 (by rw [hg, hpk])
      unfold wdOf at h
      rwa [if_pos c1, Nat.mul_one] at h
    have hr : readP kind (plainB kind l) l.length = some ((getAll (unlittle (plainB kind l)) (wdOf kind) l.length).map (numV kind)) := by
      unfold readP
      rw [if_neg h4, if_pos ⟨hlen, hc⟩]
    obtain ⟨i1, i2, i3, i4⟩ := readP_inv h1 h5 hr
    rw [hr, plain_inj _ l i3 hO i4 hP i2 i1]

theorem placeW_fits2 (n : Nat) (hn : n < 18446744073709551616) : ∀ p, p < n → p < 2 ^ placeW n := by
  intro p hp
  have := bitLen_up (x := n - 1) (by omega)
  unfold placeW
  omega
theorem addV_get (us : List Val) (v : Val) (j : Nat) (h : j < us.length) : (addV us v).getD j zeroV = us.getD j zeroV := by
  unfold addV
  split
  · rfl
  · rw [List.getD_eq_getElem?_getD, List.getD_eq_getElem?_getD, List.getElem?_append_left h]
theorem unlikeV_get : ∀ (l us : List Val) (j : Nat), j < us.length → (unlikeV us l).getD j zeroV = us.getD j zeroV
  | [], us, j, h => rfl
  | v :: l, us, j, h => by
    have := (addV_len us v).1
    rw [unlikeV, unlikeV_get l (addV us v) j (by omega), addV_get us v j h]
theorem addV_pos (us : List Val) (v : Val) : (addV us v).getD (posV v us) zeroV = v := by
  have hle := posV_le v us
  unfold addV
  split
  · rename_i h
    rw [List.getD_eq_getElem?_getD, posV_at v us h]; rfl
  · have e : posV v us = us.length := by omega
    rw [e, List.getD_eq_getElem?_getD, List.getElem?_append_right (Nat.le_refl _), Nat.sub_self]; rfl
/-- the places of the unlike ones are the values -/
theorem places_back : ∀ (l us : List Val), (placesV us l).map (fun p => (unlikeV us l).getD p zeroV) = l
  | [], us => rfl
  | v :: l, us => by
    rw [placesV, unlikeV, List.map_cons, places_back l (addV us v), unlikeV_get l _ _ (posV_add us v), addV_pos]
theorem readDi_dict {kind : Int} (h1 : 1 ≤ kind) (h5 : kind ≤ 5) (l : List Val) (hl : l.length ≤ 300) (hO : ∀ x ∈ l, x.Ok) (hP : ∀ x ∈ l, OkP kind x) : readDi kind (dictB kind l) l.length = some l := by
  have hm : ∀ x ∈ unlikeV [] l, x ∈ l := fun x hx => (unlikeV_mem l [] x hx).resolve_left (by simp)
  have hlen := unlikeV_len l []
  simp only [List.length_nil, Nat.zero_add] at hlen
  have hp := readP_plain h1 h5 (unlikeV [] l) (fun x hx => hO x (hm x hx)) (fun x hx => hP x (hm x hx))
  have hpl := plainB_len kind (unlikeV [] l) (fun h4 x hx => ((hP x (hm x hx)).text h4).2)
  have hlt := placesV_lt l []
  have hb := places_back l []
  have hpn := placesV_len l []
  have hr := readR_twice (placeW (unlikeV [] l).length) (placesV [] l) [] (fun x hx => placeW_fits2 (unlikeV [] l).length (by omega) x (hlt x hx)) (by rw [hpn]; omega)
  unfold dictB
  generalize runsB (placeW (unlikeV [] l).length) (placesV [] l) [] = R at *
  rw [List.append_nil, hpn] at hr
  have hu := readU_seven (unlikeV [] l).length (by omega) (textOf (plainB kind (unlikeV [] l)) ++ R)
  have ht := readT_text (plainB kind (unlikeV [] l)) R (by omega)
  unfold readDi
  rw [List.append_assoc, hu]
  simp only []
  rw [if_neg (by omega), List.drop_left, ht]
  simp only []
  rw [hp]
  simp only []
  rw [List.drop_left, hr]
  simp only []
  rw [hb, if_pos ⟨trivial, hlt, (sameB_iff _ _).2 rfl⟩]
end Go.Proofs.YtpbkmfnfcdhhjaaDoor
