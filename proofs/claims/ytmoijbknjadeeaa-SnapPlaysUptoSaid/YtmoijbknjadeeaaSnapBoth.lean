
/- Chapter 8: both disks side by side. -/
import Derived.Test.YtmoijbknjadeeaaSnapRLoad
import Derived.Test.YtmoijbknjadeeaaSnapOnceWalk
namespace Go.Proofs.Ytmoijbknjadeeaa
set_option linter.unusedVariables false
set_option linter.unusedSimpArgs false
open Go.RowKit
structure Op8 where
  kind : Int
  name : ByteArray
  P : Option Addr
  pn : Nat
  pc : Nat
  n : Int
  A : Option Addr
  kn : Nat
  kc : Nat
def Op8.row (o : Op8) : List Value := [.int .i64 o.kind, .string o.name, .slice o.P o.pn o.pc, .int .i64 o.n, .slice o.A o.kn o.kc]
theorem Op8.row_length (o : Op8) : o.row.length = 5 := rfl
def Op8.keeps (W : World) (B : Nat) (o : Op8) : Prop := ((-9223372036854775808 ≤ o.kind ∧ o.kind < 9223372036854775808) ∧ (-9223372036854775808 ≤ o.n ∧ o.n < 9223372036854775808)) ∧ o.name.size + 1 ≤ maxLen ∧ (∃ pl, RdB W B o.P o.pn o.pc pl) ∧ ∃ ks : List Nat, RdK W B o.A o.kn o.kc ks ∧ ∀ x ∈ ks, x < 65536
structure B8 (w : World) (B gd bd gr N : Nat) (d : PD) : Prop where
  dk : IsD w gd bd N d
  rf : IsR w gr d
  lo : B ≤ gd ∧ B ≤ bd ∧ B ≤ gr
  hw : B ≤ w.heap.size
section
variable {w w' w2 : World} {B gd bd gr N N' n pc M K : Nat} {P : Option Addr} {nm : ByteArray} {p : List UInt8} {d d' : PD}
theorem B8.step (h : B8 w B gd bd gr N d) (hb : Below w.heap.size w w') : B8 w' B gd bd gr N d := ⟨h.dk.step hb, h.rf.step hb, h.lo, Nat.le_trans h.hw hb.size⟩
theorem B8.drew (h : B8 w B gd bd gr N d) : B8 w.drew B gd bd gr N d := ⟨h.dk.drew, h.rf.drew, h.lo, h.hw⟩
theorem B8.turn (h : B8 w B gd bd gr N d) (hm : Mod (fun i _ => i = gd ∨ i = bd) w w') (hd : IsD w' gd bd N' d') (hm2 : Mod (fun i _ => i = gr) w' w2) (hr : IsR w2 gr d') : B8 w2 B gd bd gr N' d' ∧ Below B w w2 := by
  have hr0 := h.rf.keep h.dk hm
  have hb1 : Below B w w' := mod2s hm h.lo.1 h.lo.2.1 h.hw
  have hb2 : Below B w' w2 := hm2.toBelow (fun i o hi e => by have := h.lo.2.2; omega) (Nat.le_trans h.hw hm.size)
  exact ⟨⟨hd.keep hr0 hm2, hr, h.lo, Nat.le_trans (Nat.le_trans h.hw hm.size) hm2.size⟩, hb1.trans hb2⟩
theorem rsave_empty (p : Option Addr) (hk : nm.size = 0) (w : World) : Calls Try.prog 44 #[.pointer p, .string nm, .slice P n pc] w fun x w' => x = .returned (.int .i64 1) ∧ w = w' := by
  have he := emptyS_iff nm
  rw [decide_eq_false (by omega)] at he
  go_enter Try.func44, Try.ntmps44
  go_wp2_with fail
  go_ret
  exact ⟨rfl, rfl⟩
/-- Save on both sides -/
theorem save_both (hnm : nm.size + 1 ≤ maxLen) (ho : d.Ok M K) (hM : M ≤ 10000000) (hK : K ≤ 100000) (hN : N ≤ 900000) (hp : p.length ≤ 60) : ∃ code d', d'.Ok (M + 64) (K + 1) ∧
    (∀ v, IsD v gd bd N d → RdB v v.heap.size P p.length pc p → Calls Try.prog 43 #[.pointer (some ⟨gd, 0, none⟩), .string nm, .slice P p.length pc] v fun x w' => x = .returned (.int .i64 code) ∧ Mod (fun i _ => i = gd ∨ i = bd) v w' ∧ IsD w' gd bd (N + 4) d') ∧
    (∀ v, IsR v gr d → RdB v v.heap.size P p.length pc p → Calls Try.prog 44 #[.pointer (some ⟨gr, 0, none⟩), .string nm, .slice P p.length pc] v fun x w' => x = .returned (.int .i64 code) ∧ Mod (fun i _ => i = gr) v w' ∧ IsR w' gr d') := by
  by_cases h0 : nm.size = 0
  · refine ⟨1, d, ho.mono (by omega) (by omega), fun v hd hr => ?_, fun v hd hr => ?_⟩
    · refine (save_empty _ h0 v).mono ?_
      rintro x w' ⟨rfl, hb⟩
      exact ⟨rfl, (Mod.refl _ v).below hb, (hd.step hb).more (by omega)⟩
    · refine (rsave_empty _ h0 v).mono ?_
      rintro x w' ⟨rfl, rfl⟩
      exact ⟨rfl, Mod.refl _ _, hd⟩
  · have hok := sv_ok (b := p) ho (by rw [spF_size]; exact hnm) (by omega)
    rw [slL_len] at hok
    refine ⟨(svO d (spF nm) nm p).code, d.out (svO d (spF nm) nm p), hok.mono (by omega) (Nat.le_refl _), fun v hd hr => ?_, fun v hd hr => ?_⟩
    · exact save_any (by omega) hnm v hd ho hM hK hN hr (by omega)
    · exact rsave_any (by omega) hnm v hd ho hM hK hr (by omega)
end
end Go.Proofs.Ytmoijbknjadeeaa
