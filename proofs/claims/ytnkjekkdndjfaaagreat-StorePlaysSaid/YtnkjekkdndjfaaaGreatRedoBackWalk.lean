
/- The law RedoBack: the Go function returns true, whatever the bytes are. -/
import Derived.Test.YtnkjekkdndjfaaaGreatRdState
import Derived.Test.YtnkjekkdndjfaaaGreatPutState
import Derived.Test.YtnkjekkdndjfaaaGreatRedoReadWalk
import Derived.Test.YtnkjekkdndjfaaaGreatKvItems9
namespace Go.Proofs.YtnkjekkdndjfaaaGreat
set_option linter.unusedVariables false
set_option linter.unusedSimpArgs false
open Go.RowKit
theorem rd_no {A : Option Addr} {n c : Nat} {b : List UInt8} (w : World) (hr : RdB w w.heap.size A n c b) (hn : n ≤ 1600000) (h : okS b = false) :
    Calls Tryz.prog 59 #[.slice A n c] w fun x w' => x = .returned (.tuple #[.pointer none, .int .i64 3]) ∧ Below w.heap.size w w' :=
  (rdstate_any A n c b w hr hn).mono fun _ _ ⟨h1, h2, _⟩ => ⟨h2 h, h1⟩
theorem rd_yes {A : Option Addr} {n c : Nat} {b : List UInt8} {rev : Int} {l : List It} {s : St} (w : World) (hr : RdB w w.heap.size A n c b) (hn : n ≤ 1600000) (h : okS b = true) (hb : rdS b = ⟨rev, l, s⟩) :
    Calls Tryz.prog 59 #[.slice A n c] w fun x w' => ∃ g m, x = .returned (.tuple #[.pointer (some ⟨g, 0, none⟩), .int .i64 0]) ∧ IsSt w' g m l.length rev l ∧ w.heap.size ≤ m ∧ m < g ∧ Below w.heap.size w w' :=
  (rdstate_any A n c b w hr hn).mono fun _ _ ⟨h1, _, h2⟩ => (by obtain ⟨g, m, e, h3, h4, h5⟩ := h2 h; rw [hb] at h3; exact ⟨g, m, e, h3, h4, h5, h1⟩)
theorem okS_right {b : List UInt8} {rev : Int} {l : List It} {s : St} (h : okS b = true) (hb : rdS b = ⟨rev, l, s⟩) : rightL rev l = true ∧ stL rev l = b ∧ 16 * l.length ≤ b.length := by
  have h1 := put_okS h
  have h2 := h
  unfold okS at h2
  rw [Bool.and_eq_true] at h2
  have h3 := rdS_len h2.1
  rw [hb] at h1 h2 h3
  exact ⟨h2.2, h1, h3⟩
theorem rightL_small {rev : Int} {l : List It} (h : rightL rev l = true) (hr : rev < 9223372036854775808) : ∀ x ∈ l, smallI x := by
  intro x hx
  obtain ⟨h0, h1⟩ := rightL_ok h
  obtain ⟨a, b, c, d⟩ := h1 x hx
  have ha := (keyB_iff x.k).1 a
  exact ⟨ha.2, b, by omega, by omega⟩
theorem sgn_hi (n : Nat) (h : n < 18446744073709551616) : sgn n < 9223372036854775808 := by
  unfold sgn
  split <;> omega
theorem rdS_hi (b : List UInt8) : (rdS b).rev < 9223372036854775808 := sgn_hi _ (St.u_lt _ 8)
theorem Mod.cell {w w' : World} {M : Nat → Obj → Prop} {p : Addr} {v : Value} (hm : Mod M w w') (hM : ∀ o, ¬ M p.block o) (h : w.cell? p = some v) : w'.cell? p = some v := by
  have hlt := World.block_lt_of_cell? w _ h
  have hb := hm.block p.block _ (Array.getElem?_eq_getElem hlt) (hM _)
  unfold World.cell? at h ⊢
  rw [hb]
  rw [Array.getElem?_eq_getElem hlt] at h
  exact h
theorem OwnI.ge {w : World} {B n c g off : Nat} {l : List It} (h : OwnI w B (some ⟨g, off, none⟩) n c l) : B ≤ g := own_ge (show World.ownsRow _ _ _ _ _ _ _ from h) rfl
end Go.Proofs.YtnkjekkdndjfaaaGreat
