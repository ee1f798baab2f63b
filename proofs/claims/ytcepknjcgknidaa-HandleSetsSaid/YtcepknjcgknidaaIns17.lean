
/- Chapter 17: slices.Insert of one count, all roads. -/
import Derived.Test.YtcepknjcgknidaaInsRoom17
namespace Go.Proofs.Ytcepknjcgknidaa
set_option linter.unusedVariables false
set_option linter.unusedSimpArgs false
open Go.RowKit
theorem at_rd {w : World} {g : Nat} {t : TypeId} {y : Ct} (h : At w g t y.row) : RdC w w.heap.size (some ⟨g, 0, none⟩) 1 1 [y] :=
  ⟨rfl, Nat.le_refl _, by simp [maxLen], fun _ => ⟨g, 0, rfl, h.lt, fun j u hu => by rw [Nat.zero_add]; exact (h.cell j).trans hu⟩⟩
theorem insert17_any {base n c k gv : Nat} {A : Option Addr} {l : List Ct} {y : Ct} (w : World) (hown : OwnC w base A n c l) (hv : At w gv 96 y.row) (hne : (Value.slice A n c).ownBlock ≠ some gv) (hb : base ≤ w.heap.size) (hn : n ≤ 900000) (hk : k ≤ n) :
    Calls Try.prog 65 #[.slice A n c, .int .i64 (k : Int), .slice (some ⟨gv, 0, none⟩) 1 1] w fun r w' =>
      ∃ A2 c2, r = .returned (.slice A2 (n + 1) c2) ∧ OwnC w' base A2 (n + 1) c2 ((l.take k ++ [y]) ++ l.drop k) ∧ Below base w w' := by
  have hl := hown.len
  by_cases hkn : k = n
  · subst hkn
    have e : (l.take k ++ [y]) ++ l.drop k = l ++ [y] := by rw [hl, List.take_length, List.drop_length, List.append_nil]
    rw [e]
    exact insert_end w hown (at_rd hv) hb (by omega)
  · obtain ⟨g, rfl, hg, _⟩ := hown.form (by omega)
    by_cases hc : n + 1 ≤ c
    · exact insert_room w hown hv (fun e => hne (by rw [e]; rfl)) hb hn (by omega) hc
    · exact insert_grow w hown (at_rd hv) hb hn (by omega) (by omega)
end Go.Proofs.Ytcepknjcgknidaa
