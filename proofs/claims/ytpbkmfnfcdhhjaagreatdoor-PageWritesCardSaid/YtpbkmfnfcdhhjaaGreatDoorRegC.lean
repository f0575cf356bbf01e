/- string([]byte{b}) at a step of a region that draws its order; over any program. -/
import Derived.Test.YtpbkmfnfcdhhjaaGreatDoorMPlain
import Derived.Deep.AppendLies
namespace Go.Proofs.YtpbkmfnfcdhhjaaGreatDoor
set_option linter.unusedVariables false
open Go Go.RowKit

theorem run_byte_string {P : Program} {src dst e : TypeId} (w : World) (b : Nat) (n : Int) (hs : P.underlying src = some (.slice e)) (he : P.underlying e = some (.int .u8)) (hd : P.underlying dst = some .string)
    (h0 : 0 ≤ n) (h1 : n < 256) (hc : w.cell? ⟨b, 0, none⟩ = some (.int .u8 n)) : (convert src dst (.slice (some ⟨b, 0, none⟩) 1 1)).run P w = .ok (.string ⟨#[UInt8.ofNat n.toNat]⟩) w := by
  refine run_convert_bytes_back w src dst e _ 1 [UInt8.ofNat n.toNat] hs he hd fun j hj => ?_
  simp at hj
  subst hj
  rw [Addr.add_lit, hc]
  simp
  omega
theorem step_conv {P : Program} {w : World} {ops : Array Oper} {o : Oper} {a : Act} {K : Act → World → Prop} {Q : Exit → Act → World → Prop} {E : Prop} (hgd : o.guard = none) (src dst e : TypeId) (x : Operand)
    (ho : o.op = .convert src dst x) (hs : P.underlying src = some (.slice e)) (he : P.underlying e = some (.int .u8)) (hd : P.underlying dst = some .string)
    (b : Nat) (n : Int) (hx : a.eval x = .slice (some ⟨b, 0, none⟩) 1 1) (h0 : 0 ≤ n) (h1 : n < 256) (hc : w.cell? ⟨b, 0, none⟩ = some (.int .u8 n))
    (h : K (a.put o.dst (.string ⟨#[UInt8.ofNat n.toNat]⟩)) w) : if Region.wanted o (yielded ops a.tmps) = true then Oper.wp P o a w K Q else E := by
  have hw : Region.wanted o (yielded ops a.tmps) = true := by simp [Region.wanted, hgd]
  rw [if_pos hw]
  have hr := run_byte_string (P := P) w b n hs he hd h0 h1 hc
  unfold Oper.wp execOp
  simp only [ho, hx, Sem.run_bind, Sem.run_pure, Result.andThen_ok, hr]
  exact h
end Go.Proofs.YtpbkmfnfcdhhjaaGreatDoor
