/- Chapter 3 in plain Lean: what numbers bytes are, by their differences. -/
import Derived.Test.YtddefnnimbjnaaaDoorRead1
import Derived.Test.YtddefnnimbjnaaaDoorMDel
namespace Go.Proofs.YtddefnnimbjnaaaDoor
set_option linter.unusedVariables false
open Go Go.RowKit

/-- 64 bits' sum -/
def a64 (x y : Int) : Int := IntKind.i64.wrap (x + y)
theorem a64_in (x y : Int) : -9223372036854775808 ≤ a64 x y ∧ a64 x y < 9223372036854775808 := by unfold a64; rw [IntKind.wrap_i64]; omega
theorem a64_d64 (p x m : Int) (h0 : -9223372036854775808 ≤ x) (h1 : x < 9223372036854775808) : a64 p (m + ((unsub m (d64 x p) : Nat) : Int)) = x := by
  unfold a64 unsub d64
  rw [IntKind.wrap_i64, IntKind.wrap_i64]
  omega
/-- numbers behind p: each the least difference and so much more -/
def adds (m : Int) : Int → List Nat → List Int
  | _, [] => []
  | p, u :: us => a64 p (m + (u : Int)) :: adds m (a64 p (m + (u : Int))) us
theorem adds_len (m : Int) : ∀ (us : List Nat) (p : Int), (adds m p us).length = us.length
  | [], _ => rfl
  | u :: us, p => by rw [adds, List.length_cons, adds_len m us, List.length_cons]
theorem getLastD_cons' (a p : Int) (l : List Int) : (a :: l).getLastD p = l.getLastD a := by
  cases l <;> rfl
theorem adds_snoc (m : Int) (u : Nat) : ∀ (us : List Nat) (p : Int), adds m p (us ++ [u]) = adds m p us ++ [a64 ((adds m p us).getLastD p) (m + (u : Int))]
  | [], p => rfl
  | a :: us, p => by
    rw [List.cons_append, adds, adds_snoc m u us, adds, List.cons_append, getLastD_cons']
theorem adds_in (m : Int) : ∀ (us : List Nat) (p : Int), ∀ x ∈ adds m p us, -9223372036854775808 ≤ x ∧ x < 9223372036854775808
  | [], _, x, h => by simp [adds] at h
  | u :: us, p, x, h => by
    rw [adds, List.mem_cons] at h
    rcases h with rfl | h
    · exact a64_in _ _
    · exact adds_in m us _ x h
theorem adds_diffs (m : Int) : ∀ (c : List Int) (p : Int), (∀ x ∈ c, -9223372036854775808 ≤ x ∧ x < 9223372036854775808) → adds m p ((diffs p c).map (unsub m)) = c
  | [], _, _ => rfl
  | x :: c, p, h => by
    have hx := h x (by simp)
    rw [diffs, List.map_cons, adds, a64_d64 p x m hx.1 hx.2, adds_diffs m c x fun y hy => h y (by simp [hy])]

/-- so many bytes hold k numbers of so many bits -/
def kB (k w : Nat) : Nat := (k * w + 7) / 8
/-- n numbers behind p -/
def dParse (p : Int) (n : Nat) (s : List UInt8) : Option (List Int) :=
  if h : n = 0 then some [] else match readV s with
  | none => none
  | some (m, k) => match s.drop k with
    | [] => none
    | c :: r => if 64 < c.toNat ∨ r.length < kB (min 32 n) c.toNat then none else
      (dParse ((adds m p (getAll (unlittle r) c.toNat (min 32 n))).getLastD p) (n - min 32 n) (r.drop (kB (min 32 n) c.toNat))).map (adds m p (getAll (unlittle r) c.toNat (min 32 n)) ++ ·)
termination_by n
decreasing_by omega
theorem dParse_zero (p : Int) (s : List UInt8) : dParse p 0 s = some [] := by rw [dParse, dif_pos rfl]
theorem dParse_none (p : Int) (n : Nat) (s : List UInt8) (h0 : 0 < n) (h : readV s = none) : dParse p n s = none := by rw [dParse, dif_neg (by omega), h]
theorem dParse_end (p : Int) (n : Nat) (s : List UInt8) {m : Int} {k : Nat} (h0 : 0 < n) (h : readV s = some (m, k)) (h1 : s.drop k = []) : dParse p n s = none := by
  rw [dParse, dif_neg (by omega), h]; simp only []; rw [h1]
theorem dParse_bad (p : Int) (n : Nat) (s : List UInt8) {m : Int} {k : Nat} {c : UInt8} {r : List UInt8} (h0 : 0 < n) (h : readV s = some (m, k)) (h1 : s.drop k = c :: r) (h2 : 64 < c.toNat ∨ r.length < kB (min 32 n) c.toNat) : dParse p n s = none := by
  rw [dParse, dif_neg (by omega), h]; simp only []; rw [h1]; simp only []; rw [if_pos h2]
theorem dParse_step (p : Int) (n : Nat) (s : List UInt8) {m : Int} {k : Nat} {c : UInt8} {r : List UInt8} (h0 : 0 < n) (h : readV s = some (m, k)) (h1 : s.drop k = c :: r) (h2 : ¬ (64 < c.toNat ∨ r.length < kB (min 32 n) c.toNat)) :
    dParse p n s = (dParse ((adds m p (getAll (unlittle r) c.toNat (min 32 n))).getLastD p) (n - min 32 n) (r.drop (kB (min 32 n) c.toNat))).map (adds m p (getAll (unlittle r) c.toNat (min 32 n)) ++ ·) := by
  rw [dParse, dif_neg (by omega), h]; simp only []; rw [h1]; simp only []; rw [if_neg h2]
/-- n numbers -/
def dAll (s : List UInt8) (n : Nat) : Option (List Int) :=
  if n = 0 then some [] else match readV s with
  | none => none
  | some (x, k) => (dParse x (n - 1) (s.drop k)).map (x :: ·)
def numI (kind x : Int) : Val := ⟨kind, x, ⟨#[]⟩⟩
/-- n numbers, by their differences, and nothing else -/
def readD (kind : Int) (s : List UInt8) (n : Nat) : Option (List Val) :=
  match dAll s n with
  | none => none
  | some L => if (L.map (numI kind)).all (okB kind) && decide (deltaB L = s) then some (L.map (numI kind)) else none

theorem dParse_inv : ∀ (N n : Nat) (p : Int) (s : List UInt8) (L : List Int), n ≤ N → dParse p n s = some L → L.length = n ∧ ∀ x ∈ L, -9223372036854775808 ≤ x ∧ x < 9223372036854775808 := by
  intro N
  induction N with
  | zero =>
    intro n p s L hn h
    obtain rfl : n = 0 := by omega
    rw [dParse_zero] at h
    obtain rfl := Option.some.inj h
    simp
  | succ N ih =>
    intro n p s L hn h
    rcases Nat.eq_zero_or_pos n with rfl | h0
    · rw [dParse_zero] at h
      obtain rfl := Option.some.inj h
      simp
    · cases hv : readV s with
      | none => rw [dParse_none p n s h0 hv] at h; cases h
      | some x =>
        obtain ⟨m, k⟩ := x
        cases hd : s.drop k with
        | nil => rw [dParse_end p n s h0 hv hd] at h; cases h
        | cons c r =>
          by_cases hb : 64 < c.toNat ∨ r.length < kB (min 32 n) c.toNat
          · rw [dParse_bad p n s h0 hv hd hb] at h; cases h
          · rw [dParse_step p n s h0 hv hd hb] at h
            cases hr : dParse ((adds m p (getAll (unlittle r) c.toNat (min 32 n))).getLastD p) (n - min 32 n) (r.drop (kB (min 32 n) c.toNat)) with
            | none => rw [hr] at h; cases h
            | some L' =>
              rw [hr] at h
              obtain rfl := Option.some.inj h
              obtain ⟨h1, h2⟩ := ih _ _ _ _ (by omega) hr
              refine ⟨by rw [List.length_append, adds_len, getAll_len, h1]; omega, fun x hx => ?_⟩
              rcases List.mem_append.1 hx with hx | hx
              · exact adds_in _ _ _ x hx
              · exact h2 x hx
theorem readV_in {s : List UInt8} {m : Int} {k : Nat} (h : readV s = some (m, k)) : -9223372036854775808 ≤ m ∧ m < 9223372036854775808 ∧ 0 < k ∧ k ≤ s.length := by
  unfold readV at h
  cases hu : readU s with
  | none => rw [hu] at h; cases h
  | some x =>
    obtain ⟨u, k'⟩ := x
    rw [hu] at h
    simp only [Option.map_some, Option.some.injEq, Prod.mk.injEq] at h
    obtain ⟨rfl, rfl⟩ := h
    have h1 := readU_lt hu
    have h2 := unzig_lt h1.1
    omega
theorem dAll_inv (s : List UInt8) (n : Nat) (L : List Int) (h : dAll s n = some L) : L.length = n ∧ ∀ x ∈ L, -9223372036854775808 ≤ x ∧ x < 9223372036854775808 := by
  unfold dAll at h
  split at h
  · obtain rfl := Option.some.inj h
    subst_vars; simp
  · split at h
    · cases h
    · rename_i x k hv
      have hx := readV_in hv
      cases hr : dParse x (n - 1) (s.drop k) with
      | none => rw [hr] at h; cases h
      | some L' =>
        rw [hr] at h
        obtain rfl := Option.some.inj h
        obtain ⟨h1, h2⟩ := dParse_inv _ _ _ _ _ (Nat.le_refl _) hr
        refine ⟨by rw [List.length_cons, h1]; omega, fun y hy => ?_⟩
        rcases List.mem_cons.1 hy with rfl | hy
        · exact ⟨hx.1, hx.2.1⟩
        · exact h2 y hy
theorem numI_ok (kind x : Int) (hk : kind = 2 ∨ kind = 3) (h0 : -9223372036854775808 ≤ x) (h1 : x < 9223372036854775808) : (numI kind x).Ok :=
  ⟨by show _ ≤ kind; omega, by show kind < _; omega, h0, h1, Nat.zero_le _⟩
theorem numsI_numI (kind : Int) (L : List Int) : numsI (L.map (numI kind)) = L := by
  unfold numsI
  rw [List.map_map]
  exact List.map_id' L
theorem numI_numsI (kind : Int) (hk : kind = 2 ∨ kind = 3) (l : List Val) (h : ∀ x ∈ l, OkP kind x) : (numsI l).map (numI kind) = l := by
  unfold numsI
  rw [List.map_map]
  refine (List.map_congr_left fun x hx => ?_).trans (List.map_id' l)
  obtain ⟨a, b, s⟩ := x
  have h1 := (h _ hx).k
  have h2 := empty_list ((h _ hx).num (by omega))
  simp only at h1 h2
  subst h1 h2
  rfl
/-- what is read is written as the same bytes -/
theorem readD_inv {kind : Int} (hk : kind = 2 ∨ kind = 3) {s : List UInt8} {n : Nat} {l : List Val} (h : readD kind s n = some l) :
    deltaB (numsI l) = s ∧ l.length = n ∧ (∀ x ∈ l, x.Ok) ∧ ∀ x ∈ l, OkP kind x := by
  unfold readD at h
  cases ha : dAll s n with
  | none => rw [ha] at h; cases h
  | some L =>
    rw [ha] at h
    simp only at h
    split at h
    · rename_i hc
      obtain rfl := Option.some.inj h
      rw [Bool.and_eq_true, decide_eq_true_eq, List.all_eq_true] at hc
      obtain ⟨h1, h2⟩ := dAll_inv s n L ha
      refine ⟨by rw [numsI_numI]; exact hc.2, by rw [List.length_map, h1], fun x hx => ?_, fun x hx => (okB_iff kind x).1 (hc.1 x hx)⟩
      obtain ⟨y, hy, rfl⟩ := List.mem_map.1 hx
      exact numI_ok kind y hk (h2 y hy).1 (h2 y hy).2
    · cases h

theorem readV_zig (x : Int) (r : List UInt8) (h0 : -9223372036854775808 ≤ x) (h1 : x < 9223372036854775808) : readV (seven (zig x) ++ r) = some (x, (seven (zig x)).length) := by
  unfold readV
  rw [readU_seven _ (zig_lt h0 h1), Option.map_some, unzig_zig]
/-- what is written is read -/
theorem dParse_rest : ∀ (N : Nat) (l : List Int) (p : Int), l.length ≤ N → (∀ x ∈ l, -9223372036854775808 ≤ x ∧ x < 9223372036854775808) → dParse p l.length (restB p l) = some l := by
  intro N
  induction N with
  | zero =>
    intro l p hl _
    obtain rfl := List.eq_nil_of_length_eq_zero (Nat.le_zero.1 hl)
    exact dParse_zero _ _
  | succ N ih =>
    intro l p hl hx
    by_cases h : l = []
    · subst h; exact dParse_zero _ _
    · have h0 := List.length_pos_iff.2 h
      have hlc : (l.take 32).length = min 32 l.length := List.length_take
      have hcx : ∀ x ∈ l.take 32, -9223372036854775808 ≤ x ∧ x < 9223372036854775808 := fun x hy => hx x (List.mem_of_mem_take hy)
      have hcn : diffs p (l.take 32) ≠ [] := by
        intro e
        have := congrArg List.length e
        rw [diffs_len, hlc, List.length_nil] at this
        omega
      have hm := diffs_in (l.take 32) p _ (minOf_in hcn)
      have ha := adds_diffs (minOf (diffs p (l.take 32))) (l.take 32) p hcx
      have hul : (unsubs (diffs p (l.take 32))).length = min 32 l.length := by unfold unsubs; rw [List.length_map, diffs_len, hlc]
      have hus : unsubs (diffs p (l.take 32)) = (diffs p (l.take 32)).map (unsub (minOf (diffs p (l.take 32)))) := rfl
      rw [← hus] at ha
      have hfit := widOf_fits (unsubs_lt (diffs p (l.take 32)))
      have hw := widOf_le (unsubs (diffs p (l.take 32)))
      have hg := getAll_packed (widOf (unsubs (diffs p (l.take 32)))) _ hfit (restB ((l.take 32).getLastD p) (l.drop 32))
      have hpl : (packed (widOf (unsubs (diffs p (l.take 32)))) (unsubs (diffs p (l.take 32)))).length = kB (min 32 l.length) (widOf (unsubs (diffs p (l.take 32)))) := by
        unfold packed kB; rw [bytesOf_len, hul]
      rw [restB_some p h, chunkB_eq]
      generalize minOf (diffs p (l.take 32)) = m at *
      generalize unsubs (diffs p (l.take 32)) = us at *
      generalize widOf us = wd at *
      generalize hR : restB ((l.take 32).getLastD p) (l.drop 32) = R at *
      generalize packed wd us = P at *
      have hwb : (UInt8.ofNat wd).toNat = wd := by rw [UInt8.toNat_ofNat', Nat.mod_eq_of_lt (by omega)]
      have hv : readV (seven (zig m) ++ [UInt8.ofNat wd] ++ P ++ R) = some (m, (seven (zig m)).length) := by
        rw [List.append_assoc, List.append_assoc]
        exact readV_zig m _ hm.1 hm.2
      have hd : (seven (zig m) ++ [UInt8.ofNat wd] ++ P ++ R).drop (seven (zig m)).length = UInt8.ofNat wd :: (P ++ R) := by
        rw [List.append_assoc, List.append_assoc, List.drop_left]; rfl
      rw [dParse_step p l.length _ h0 hv hd (by rw [hwb, List.length_append, hpl]; omega), hwb, ← hpl, List.drop_left, ← hul, hg, ha, ← hR]
      have hl2 : l.length - us.length = (l.drop 32).length := by rw [hul, List.length_drop]; omega
      rw [hl2, ih (l.drop 32) _ (by rw [List.length_drop]; omega) fun x hy => hx x (List.mem_of_mem_drop hy)]
      rw [Option.map_some, List.take_append_drop]
theorem dAll_delta (L : List Int) (h : ∀ x ∈ L, -9223372036854775808 ≤ x ∧ x < 9223372036854775808) : dAll (deltaB L) L.length = some L := by
  cases L with
  | nil => rfl
  | cons x l =>
    have hx := h x (by simp)
    unfold dAll deltaB
    rw [if_neg (by simp), readV_zig x _ hx.1 hx.2]
    simp only []
    rw [List.drop_left, List.length_cons, Nat.add_sub_cancel, dParse_rest _ l x (Nat.le_refl _) fun y hy => h y (by simp [hy])]
    rfl
theorem readD_delta {kind : Int} (hk : kind = 2 ∨ kind = 3) (l : List Val) (hO : ∀ x ∈ l, x.Ok) (hP : ∀ x ∈ l, OkP kind x) : readD kind (deltaB (numsI l)) l.length = some l := by
  have hl : (numsI l).length = l.length := by unfold numsI; rw [List.length_map]
  have h1 := dAll_delta (numsI l) (fun x hx => by
    obtain ⟨y, hy, rfl⟩ := List.mem_map.1 hx
    exact ⟨(hO y hy).n0, (hO y hy).n1⟩)
  unfold readD
  rw [hl] at h1
  rw [h1]
  simp only []
  rw [numI_numsI kind hk l hP, if_pos]
  rw [Bool.and_eq_true, decide_eq_true_eq, List.all_eq_true]
  exact ⟨fun x hx => (okB_iff kind x).2 (hP x hx), trivial⟩
end Go.Proofs.YtddefnnimbjnaaaDoor
