
/- The law WalNil: a log that is not there is dead. -/
import Derived.Test.YtmoijbknjadeeaaWalAwake
namespace Go.Proofs.Ytmoijbknjadeeaa
set_option linter.unusedVariables false
set_option linter.unusedSimpArgs false
open Go.RowKit
set_option maxRecDepth 100000 in
set_option maxHeartbeats 4000000 in
theorem walNil_walk {A : Option Addr} {n c : Nat} {l : List UInt8} (w : World) (hr : RdB w w.heap.size A n c l) : Calls Try.prog 9 #[.slice A n c] w fun x w' => x = .returned (.bool true) ∧ Below w.heap.size w w' := by
  have HN := wopen_nil (nm := wF) wF_lo w
  go_enter Try.func9, Try.ntmps9
  go_wp2_with (first
    | (((with_reducible refine (HN).mono ?_); rintro z v ⟨rfl, rfl⟩))
    | (((with_reducible refine ((pd_new w)).mono ?_); rintro z w1 ⟨gd, bd, rfl, -, -, -, hb1⟩))
    | (((with_reducible refine ((wopen_empty (nm := ⟨#[]⟩) _ rfl w1)).mono ?_); rintro z v ⟨rfl, rfl⟩))
    | (((with_reducible refine ((wapp_nil A n c w1)).mono ?_); rintro z v ⟨rfl, rfl⟩))
    | (((with_reducible refine ((wclear_nil w1)).mono ?_); rintro z v ⟨rfl, rfl⟩))
    | (((with_reducible refine ((wsize_nil w1)).mono ?_); rintro z v ⟨rfl, rfl⟩))
    | (((with_reducible refine ((wdead_nil w1)).mono ?_); rintro z v ⟨rfl, rfl⟩))
    | (((with_reducible refine ((awake7 w1)).mono ?_); rintro z w2 ⟨rfl, hb2⟩)))
  go_ret
  exact ⟨rfl, chain hb1 hb2⟩
end Go.Proofs.Ytmoijbknjadeeaa
