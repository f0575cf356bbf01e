/- Chapter 2 in plain Lean: what is written as runs is read. -/
import Derived.Test.YtehklkmnbhgebaaDoorRuns1
namespace Go.Proofs.YtehklkmnbhgebaaDoor
set_option linter.unusedVariables false

theorem packed8_len (wd : Nat) (o : List Nat) (c : Nat) (h : o.length = 8 * c) : (packed wd o).length = c * wd := by
  rw [packed, bytesOf_len, h, Nat.mul_assoc]; omega
theorem drop_len_append {α : Type} (a b : List α) : (a ++ b).drop a.length = b := by simp
theorem drop_len_append' {α : Type} (a b c : List α) (n : Nat) (h : n = a.length + b.length) : (a ++ (b ++ c)).drop n = c := by
  subst h; rw [← List.append_assoc, ← List.length_append]; exact drop_len_append _ _

theorem readR_flush' (wd m z : Nat) (o real : List Nat) (rest : List UInt8) (ho : o = real ++ List.replicate z 0) (hz : z < 8) (h8 : o.length % 8 = 0) (hm : 0 < m → z = 0)
    (hl : ∀ x ∈ o, x < 2 ^ wd) (hb : real.length + m < 4611686018427387904) :
    readR wd (real.length + m) (flush wd o ++ rest) = (readR wd m rest).map fun x => (real ++ x.1, (flush wd o).length + x.2) := by
  by_cases h0 : o = []
  · subst h0
    have hr : real = [] := by
      have := congrArg List.length ho
      simp at this
      exact List.eq_nil_of_length_eq_zero (by omega)
    subst hr
    simp only [flush_nil, List.length_nil, List.nil_append, Nat.zero_add]
    cases readR wd m rest <;> rfl
  · rw [flush_cons wd h0]
    have hpos : 0 < o.length := List.length_pos_iff.2 h0
    have hlen : o.length = real.length + z := by rw [ho]; simp
    obtain ⟨c, hc⟩ : ∃ c, o.length = 8 * c := ⟨o.length / 8, by omega⟩
    have hd : o.length / 8 = c := by omega
    rw [hd]
    have hU := readU_seven (2 * c + 1) (by omega) (packed wd o ++ rest)
    have hdr : (seven (2 * c + 1) ++ (packed wd o ++ rest)).drop (seven (2 * c + 1)).length = packed wd o ++ rest := drop_len_append _ _
    have hpl := packed8_len wd o c hc
    have hh : (2 * c + 1) / 2 = c := by omega
    have hg : getAll (unlittle (packed wd o ++ rest)) wd (8 * ((2 * c + 1) / 2)) = o := by
      rw [hh, ← hc]; exact getAll_packed wd o hl rest
    rw [List.append_assoc, readR_odd wd _ (2 * c + 1) _ _ (by omega) hU (by omega) (by omega) ?_]
    · rw [hdr, hg, hh, drop_len_append' _ _ _ _ (by rw [hpl])]
      have e1 : real.length + m - 8 * c = m := by
        by_cases hm0 : 0 < m
        · have := hm hm0; omega
        · omega
      have e2 : o.take (real.length + m) = real := by
        rw [ho]
        by_cases hm0 : 0 < m
        · rw [hm hm0, List.replicate_zero, List.append_nil]; exact List.take_of_length_le (by omega)
        · rw [show m = 0 by omega]; simp
      rw [e1, e2]
      congr 1
      funext x
      rw [List.length_append, hpl]
    · rw [hdr, hg, hh]
      intro h
      rcases h with h | h | h
      · rw [List.length_append, hpl] at h; omega
      · omega
      · apply h
        intro x hx
        rw [ho] at hx
        by_cases hm0 : 0 < m
        · rw [hm hm0, List.replicate_zero, List.append_nil, List.drop_eq_nil_of_le (by omega)] at hx; simp at hx
        · rw [show m = 0 by omega] at hx
          simp at hx
          exact hx.2

theorem readR_run (wd m c a : Nat) (rest : List UInt8) (hc : 8 ≤ c) (ha : a < 2 ^ wd) (hb : c + m < 4611686018427387904) :
    readR wd (c + m) (seven (2 * c) ++ little (sizeB wd) a ++ rest) = (readR wd m rest).map fun x => (List.replicate c a ++ x.1, (seven (2 * c) ++ little (sizeB wd) a).length + x.2) := by
  have hU := readU_seven (2 * c) (by omega) (little (sizeB wd) a ++ rest)
  have hdr : (seven (2 * c) ++ (little (sizeB wd) a ++ rest)).drop (seven (2 * c)).length = little (sizeB wd) a ++ rest := drop_len_append _ _
  have hll := little_len (sizeB wd) a
  have hh : (2 * c) / 2 = c := by omega
  have hlt : a < 256 ^ sizeB wd := by
    rw [← pow256]
    exact Nat.lt_of_lt_of_le ha (Nat.pow_le_pow_right (by decide) (by unfold sizeB; omega))
  have hx : unlittle ((little (sizeB wd) a ++ rest).take (sizeB wd)) = a := by
    rw [List.take_append_of_le_length (by omega), List.take_of_length_le (by omega), unlittle_little _ _ hlt]
  rw [List.append_assoc, readR_even wd _ (2 * c) _ _ (by omega) hU (by omega) (by omega) ?_]
  · rw [hdr, hx, hh, drop_len_append' _ _ _ _ (by rw [hll]), show c + m - c = m by omega]
    congr 1
    funext x
    rw [List.length_append, hll]
  · rw [hdr, hx, List.length_append, hll]
    omega

theorem headRun_take (a : Nat) (l : List Nat) : (a :: l).take (headRun (a :: l)) = List.replicate (headRun (a :: l)) a := by
  have hle := headRun_le (a :: l)
  apply List.ext_getElem?
  intro j
  rw [List.getElem?_take, List.getElem?_replicate]
  split
  · exact headRun_at a l j (by assumption)
  · rfl

theorem readR_runs (wd : Nat) (behind : List UInt8) : ∀ (n : Nat) (l o real : List Nat) (z : Nat), l.length = n → (∀ x ∈ l, x < 2 ^ wd) → (∀ x ∈ o, x < 2 ^ wd) → o = real ++ List.replicate z 0 → z < 8 → o.length % 8 = 0 → (l ≠ [] → z = 0) →
    real.length + l.length < 4611686018427387904 →
    readR wd (real.length + l.length) (runsB wd l o ++ behind) = some (real ++ l, (runsB wd l o).length) := by
  intro n
  induction n using Nat.strongRecOn with
  | _ n ih =>
    intro l o real z hn hl ho hoz hz h8 hlz hb
    cases l with
    | nil =>
      rw [runsB_nil, List.length_nil, readR_flush' wd 0 z o real behind hoz hz h8 (by omega) ho (by simpa using hb), readR_zero]
      simp
    | cons a l =>
      have hz0 : z = 0 := hlz (by simp)
      by_cases hr : 8 ≤ headRun (a :: l)
      · rw [runsB_run wd a l o hr]
        have hle := headRun_le (a :: l)
        have hsub : ∀ x ∈ (a :: l).drop (headRun (a :: l)), x < 2 ^ wd := fun x hx => hl x (List.mem_of_mem_drop hx)
        have hln : ((a :: l).drop (headRun (a :: l))).length = (a :: l).length - headRun (a :: l) := List.length_drop
        have hIH := ih _ (by rw [hln, ← hn]; omega) ((a :: l).drop (headRun (a :: l))) [] [] 0 rfl hsub (by simp) (by simp) (by omega) (by simp) (by simp) (by rw [hln]; simp only [List.length_nil]; omega)
        rw [List.append_assoc, readR_flush' wd _ z o real _ hoz hz h8 (fun _ => hz0) ho hb]
        have e : (a :: l).length = headRun (a :: l) + ((a :: l).drop (headRun (a :: l))).length := by rw [hln]; omega
        rw [e, List.append_assoc, readR_run wd _ (headRun (a :: l)) a _ hr (hl a (List.mem_cons_self ..)) (by rw [← e]; omega)]
        rw [List.length_nil, Nat.zero_add] at hIH
        rw [hIH]
        simp only [Option.map_some, List.nil_append, List.length_append]
        rw [← headRun_take, List.take_append_drop, ← Nat.add_assoc]
      · rw [runsB_open wd a l o (by omega)]
        have hpow : 0 < 2 ^ wd := Nat.pow_pos (by decide)
        have hIH := ih _ (by rw [List.length_drop, ← hn, List.length_cons]; omega) ((a :: l).drop 8) (o ++ pad8 (a :: l)) (real ++ (a :: l).take 8) (8 - (a :: l).length) rfl (fun x hx => hl x (List.mem_of_mem_drop hx))
          (by
            intro x hx
            rcases List.mem_append.1 hx with hx | hx
            · exact ho x hx
            · rcases List.mem_append.1 hx with hx | hx
              · exact hl x (List.mem_of_mem_take hx)
              · rw [(List.mem_replicate.1 hx).2]; exact hpow)
          (by rw [hoz, hz0, pad8]; simp)
          (by simp only [List.length_cons]; omega)
          (by rw [List.length_append, pad8_len]; omega)
          (by
            intro h
            have : 0 < ((a :: l).drop 8).length := List.length_pos_iff.2 h
            rw [List.length_drop] at this
            omega)
          (by rw [List.length_append, List.length_take, List.length_drop]; omega)
        rw [show (real ++ (a :: l).take 8).length + ((a :: l).drop 8).length = real.length + (a :: l).length by rw [List.length_append, List.length_take, List.length_drop]; omega] at hIH
        rw [hIH, List.append_assoc, List.take_append_drop]
theorem readR_twice (wd : Nat) (l : List Nat) (behind : List UInt8) (hl : ∀ x ∈ l, x < 2 ^ wd) (hb : l.length < 4611686018427387904) :
    readR wd l.length (runsB wd l [] ++ behind) = some (l, (runsB wd l []).length) := by
  have := readR_runs wd behind l.length l [] [] 0 rfl hl (by simp) (by simp) (by omega) (by simp) (by simp) (by simpa using hb)
  simpa using this
end Go.Proofs.YtehklkmnbhgebaaDoor
