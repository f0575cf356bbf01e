/- stats.Read whole. -/
import Derived.Test.YtpbkmfnfcdhhjaaDoorTx6
import Derived.Test.YtpbkmfnfcdhhjaaDoorMEnc
namespace Go.Proofs.YtpbkmfnfcdhhjaaDoor
set_option linter.unusedVariables false
open Go Go.RowKit Go.ChangeShapes

theorem byteP_bad0 {L : List UInt8} {r : Rdr} (h : (byteP L r).2.bad = true) : (byteP L r).1 = 0 := by
  unfold byteP at h ⊢
  split
  · rfl
  · rename_i hn; rw [if_neg hn] at h; cases h
theorem stRet_none {ev : Value} {L : List UInt8} (h : (rdS L).fail = true) : stRet ev (readPr L) = .tuple #[.agg (stA St.none), .int .i64 0, ev] := by
  unfold readPr; rw [if_pos h]; rfl
theorem stRet_some {ev : Value} {L : List UInt8} (h : (rdS L).fail = false) : stRet ev (readPr L) = .tuple #[.agg (stA ⟨((rdS L).e : Nat), ((rdS L).n : Nat), (rdS L).h == 1, (rdS L).lo, (rdS L).hi⟩), .int .i64 ((rdS L).r.pos : Nat), .nilIface] := by
  unfold readPr; rw [if_neg (by rw [h]; decide)]; rfl
set_option maxHeartbeats 1000000 in
theorem read_any (s : ByteArray) (hs : s.size ≤ 1000000) (w : World) (adr : Nat → Addr) (hE : ErrsAt w adr [1, 2, 4]) :
    Calls Tryd.prog 20 #[.string s] w fun e9 w' => e9 = .returned (stRet (.iface 222 (.pointer (some (adr 1)))) (readPr s.data.toList)) ∧ Below w.heap.size w w' := by
  have hls : s.data.toList.length = s.size := by simp
  have N := fun (r : Rdr) (h : r.pos ≤ s.size) (w1 : World) (hb : Below w.heap.size w w1) hg => rnumber_any s hs r h (w.heap.size + 1) 93 w1 hg adr ((hE.sub (by decide)).below hb)
  have B := fun (r : Rdr) (h : r.pos ≤ s.size) (w1 : World) (hb : Below w.heap.size w w1) hg => rbyte_any s hs r h (w.heap.size + 1) 93 w1 hg
  have V := fun (kind : Int) (r : Rdr) (h : r.pos ≤ s.size) (w1 : World) (hb : Below w.heap.size w w1) hg => rvalue_any s hs kind r h (w.heap.size + 1) 93 w1 hg adr (hE.below hb)
  obtain ⟨l1, -⟩ := numP_le (L := s.data.toList) (r := ⟨0, false⟩) (Nat.zero_le _)
  have n1 := N ⟨0, false⟩ (Nat.zero_le _)
  cases hx1 : numP s.data.toList ⟨0, false⟩ with
  | mk e r1 =>
  rw [hx1] at n1 l1
  obtain ⟨p1, b1⟩ := r1
  simp only [hls] at l1
  cases b1 with
  | true =>
    rw [stRet_none (rdS_bad hx1 (by rfl))]
    have h3 := B ⟨p1, true⟩ l1
    rw [byteP_bad] at h3
    exact read_A s e p1 p1 w adr hE n1 h3
  | false =>
    obtain ⟨l2, -⟩ := numP_le (L := s.data.toList) (r := ⟨p1, false⟩) (by rw [hls]; exact l1)
    have n2 := N ⟨p1, false⟩ l1
    cases hx2 : numP s.data.toList ⟨p1, false⟩ with
    | mk n r2 =>
    rw [hx2] at n2 l2
    obtain ⟨p2, b2⟩ := r2
    simp only [hls] at l2
    obtain ⟨l3, -⟩ := byteP_le (L := s.data.toList) (r := ⟨p2, b2⟩) (by rw [hls]; exact l2)
    have n3 := B ⟨p2, b2⟩ l2
    have hb0 := byteP_bad0 (L := s.data.toList) (r := ⟨p2, b2⟩)
    cases hx3 : byteP s.data.toList ⟨p2, b2⟩ with
    | mk h r3 =>
    rw [hx3] at n3 l3 hb0
    obtain ⟨p3, b3⟩ := r3
    simp only [hls] at l3 hb0
    have hR : rdS s.data.toList = (if h = 1 then ⟨e, n, h, (valP s.data.toList ((byteP s.data.toList ⟨p3, b3⟩).1 : Nat) (byteP s.data.toList ⟨p3, b3⟩).2).1, (valP s.data.toList ((byteP s.data.toList ⟨p3, b3⟩).1 : Nat) (valP s.data.toList ((byteP s.data.toList ⟨p3, b3⟩).1 : Nat) (byteP s.data.toList ⟨p3, b3⟩).2).2).1, (valP s.data.toList ((byteP s.data.toList ⟨p3, b3⟩).1 : Nat) (valP s.data.toList ((byteP s.data.toList ⟨p3, b3⟩).1 : Nat) (byteP s.data.toList ⟨p3, b3⟩).2).2).2⟩
        else ⟨e, n, h, zv, zv, ⟨p3, b3⟩⟩) := by
      unfold rdS
      rw [hx1]
      simp only [Bool.false_eq_true, if_false]
      rw [hx2]
      simp only [hx3]
    by_cases h1 : h = 1
    · subst h1
      have hb3 : b3 = false := by cases b3 with
        | false => rfl
        | true => have := hb0 rfl; cases this
      subst hb3
      rw [if_pos rfl] at hR
      obtain ⟨l4, k256⟩ := byteP_le (L := s.data.toList) (r := ⟨p3, false⟩) (by rw [hls]; exact l3)
      have n4 := B ⟨p3, false⟩ l3
      cases hx4 : byteP s.data.toList ⟨p3, false⟩ with
      | mk k r4 =>
      rw [hx4] at n4 l4 hR k256
      obtain ⟨p4, b4⟩ := r4
      simp only [hls] at l4 k256 hR
      have l5 := valP_le (L := s.data.toList) (kind := (k : Nat)) (r := ⟨p4, b4⟩) (by rw [hls]; exact l4)
      have n5 := V (k : Nat) ⟨p4, b4⟩ l4
      have o5 := valP_ok s.data.toList (k : Nat) ⟨p4, b4⟩
      cases hx5 : valP s.data.toList (k : Nat) ⟨p4, b4⟩ with
      | mk lo r5 =>
      rw [hx5] at n5 l5 hR o5
      obtain ⟨p5, b5⟩ := r5
      simp only [hls] at l5 hR o5
      have l6 := valP_le (L := s.data.toList) (kind := (k : Nat)) (r := ⟨p5, b5⟩) (by rw [hls]; exact l5)
      have n6 := V (k : Nat) ⟨p5, b5⟩ l5
      have o6 := valP_ok s.data.toList (k : Nat) ⟨p5, b5⟩
      cases hx6 : valP s.data.toList (k : Nat) ⟨p5, b5⟩ with
      | mk hi r6 =>
      rw [hx6] at n6 l6 hR o6
      obtain ⟨p6, b6⟩ := r6
      simp only [hls] at l6 hR o6
      have hk8 : IntKind.i64.wrap (k : Int) = (k : Int) := by rw [IntKind.wrap_i64]; omega
      cases b6 with
      | true =>
        rw [stRet_none (by rw [hR]; simp [RdS.fail])]
        exact read_Cbad s e n k p1 p2 p3 p4 p5 p6 b2 b4 b5 lo hi hk8 w adr hE n1 n2 n3 n4 n5 n6
      | false =>
        by_cases h4 : e < n
        · rw [stRet_none (by rw [hR]; simp [RdS.fail, h4])]
          exact read_Cmore s e n k p1 p2 p3 p4 p5 p6 b2 b4 b5 lo hi hk8 w adr hE n1 n2 n3 n4 n5 n6 (by omega) (by simpa using h4)
        · by_cases h5 : n < e
          · have less := fun w1 => show Calls _ _ _ _ _ from less_any hi lo o6 o5 w1
            cases hl : hi.less lo with
            | true =>
              rw [hl] at less
              rw [stRet_none (by rw [hR]; simp [RdS.fail, hl])]
              exact read_Cless s e n k p1 p2 p3 p4 p5 p6 b2 b4 b5 lo hi hk8 w adr hE n1 n2 n3 n4 n5 n6 less (by omega) (by simpa using h4) (by omega) (by simpa using h5)
            | false =>
              rw [hl] at less
              rw [stRet_some (by rw [hR]; simp [RdS.fail, hl, h4, h5]), hR]
              exact read_Cok s e n k p1 p2 p3 p4 p5 p6 b2 b4 b5 lo hi hk8 w adr hE n1 n2 n3 n4 n5 n6 less (by omega) (by simpa using h4) (by omega) (by simpa using h5)
          · rw [stRet_none (by rw [hR]; simp [RdS.fail, h5])]
            exact read_Chas s e n k p1 p2 p3 p4 p5 p6 b2 b4 b5 lo hi hk8 w adr hE n1 n2 n3 n4 n5 n6 (by omega) (by simpa using h4) (by omega) (by simpa using h5)
    · rw [if_neg h1] at hR
      cases b3 with
      | true =>
        rw [stRet_none (by rw [hR]; simp [RdS.fail])]
        rw [hb0 rfl] at n3
        exact read_Bbad s e n p1 p2 p3 b2 w adr hE n1 n2 n3
      | false =>
        by_cases h2 : 1 < h
        · rw [stRet_none (by rw [hR]; simp [RdS.fail, h2])]
          exact read_Bbig s e n p1 p2 p3 h b2 w adr hE n1 n2 n3 (by rw [beq_eq_false_iff_ne]; omega) (by omega) h2
        · have h0 : h = 0 := by omega
          subst h0
          by_cases h4 : e < n
          · rw [stRet_none (by rw [hR]; simp [RdS.fail, h4])]
            exact read_Bmore s e n p1 p2 p3 b2 w adr hE n1 n2 n3 (by omega) (by simpa using h4)
          · by_cases h5 : n < e
            · rw [stRet_none (by rw [hR]; simp [RdS.fail, h5])]
              exact read_Bhas s e n p1 p2 p3 b2 w adr hE n1 n2 n3 (by omega) (by simpa using h4) (by omega) (by simpa using h5)
            · have less := fun w1 => show Calls _ _ _ _ _ from less_any zv zv zv_ok zv_ok w1
              rw [zv_less] at less
              rw [stRet_some (by rw [hR]; simp [RdS.fail, h4, h5, zv_less]), hR]
              exact read_Bok s e n p1 p2 p3 b2 w adr hE n1 n2 n3 less (by omega) (by simpa using h4) (by omega) (by simpa using h5)
end Go.Proofs.YtpbkmfnfcdhhjaaDoor
