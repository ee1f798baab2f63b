
/- Small laws on bits, in the walk's own spelling. No program is named here. -/
import Derived.Laws.BitsAllLaws
import Derived.Laws.Bits64
import Derived.Laws.BitsLemmas
namespace Go.Proofs.Ytcpkaolfafeojaa
set_option linter.unusedSimpArgs false
set_option linter.unusedVariables false

theorem or_low (y c : Nat) (hc : c < 256) : y * 256 ||| c = y * 256 + c := by
  have := Nat.shiftLeft_add_eq_or_of_lt (show c < 2 ^ 8 from hc) y
  rw [Nat.shiftLeft_eq] at this
  exact this.symm

theorem or_step (x c : Nat) (hc : c < 256) : bits .or .u64 (IntKind.u64.wrap ((x : Int) * 256)) (IntKind.u64.wrap (c : Int)) = (((x * 256 + c) % 18446744073709551616 : Nat) : Int) := by
  have e1 : IntKind.u64.wrap ((x : Int) * 256) = ((x % 72057594037927936 * 256 : Nat) : Int) := by rw [IntKind.wrap_u64]; omega
  have e2 : IntKind.u64.wrap (c : Int) = (c : Int) := by rw [IntKind.wrap_u64]; omega
  rw [e1, e2, u64_or_nat _ _ (by omega) (by omega), or_low _ _ hc]
  omega
end Go.Proofs.Ytcpkaolfafeojaa
