
/- Chapter 17: the example; total. -/
import Derived.Test.YtcepknjcgknidaaAdd17
namespace Go.Proofs.Ytcepknjcgknidaa
set_option linter.unusedVariables false
set_option linter.unusedSimpArgs false
open Go.RowKit
theorem calls_id {P : Program} {f : FuncId} {args : Array Value} {w : World} {Q : Ending → World → Prop} (h : Calls P f args w Q) : Calls P f args w Q := h
theorem Rd.step {w w' : World} {s n c : Nat} {A : Option Addr} {xs : List Value} (h : Rd w w.heap.size s A n c xs) (hb : Below w.heap.size w w') : Rd w' w'.heap.size s A n c xs := (Rd.below h hb).more hb.size
theorem At.step {w w' : World} {g : Nat} {t : TypeId} {cs : List Value} (h : At w g t cs) (hb : Below w.heap.size w w') : At w' g t cs := h.below hb
theorem ex_add : add17p [] 64 3 = ([⟨64, 3⟩], 0) := by decide
theorem ex_sub : sub17p [⟨64, 3⟩] 64 5 = ([], 0) := by decide
theorem ex_of : of17 [⟨64, 3⟩] 64 = 3 := by decide
theorem ex_right : right17 [⟨64, 3⟩] = true := by decide
set_option maxRecDepth 100000 in
set_option maxHeartbeats 4000000 in
theorem awake17_any (w : World) : Calls Try.prog 37 #[] w fun r w' => r = .returned (.bool true) ∧ Below w.heap.size w w' := by
  have hadd := hadd_any none 0 0 [] 70 64 3 w Rd.nil (by simp) (by omega) (by omega) (by omega)
  rw [ex_add] at hadd
  simp only [Int.cast_ofNat_Int] at hadd
  have HADD := Lib.hid hadd
  clear hadd
  go_enter Try.func37, Try.ntmps37
  go_upto_region 2 with ((with_reducible refine calls_id ?_); refine HADD.out.mono ?_; rintro r w2 ⟨A2, n2, c2, rfl, hown, hb2⟩)
  have hl := hown.len
  obtain rfl : n2 = 1 := hl
  obtain ⟨g, rfl, hg1, hg2⟩ := hown.form (by omega)
  obtain ⟨h0, hb3⟩ := one_at w2 62 [.slice (some ⟨g, 0, none⟩) 1 c2]
  replace hown := hown.below hb3
  replace hb := hb2.trans (hb3.mono hb2.size)
  have hg3 : g < (w2.alloc (.cells #[.slice (some ⟨g, 0, none⟩) 1 c2] 62)).heap.size := by simp; omega
  have hgw : g < w2.heap.size := hg2
  generalize w2.alloc _ = w3 at *
  have hsub := hsub_any _ 1 c2 [⟨64, 3⟩] 64 64 5 w3 hown.rd (by simp) (by omega) (by omega) (by omega)
  rw [ex_sub] at hsub
  simp only [Int.cast_ofNat_Int] at hsub
  have HSUB := Lib.hid hsub
  clear hsub
  obtain ⟨x0, x1⟩ := at1 h0
  go_upto_region 3 with ((with_reducible refine calls_id ?_); refine HSUB.out.mono ?_; rintro r w4 ⟨A4, n4, c4, rfl, hown4, hb4⟩)
  have hl := hown4.len
  obtain rfl : n4 = 0 := hl
  obtain ⟨h1, hb5⟩ := one_at w4 62 [.slice A4 0 c4]
  have hb35 := hb4.trans (hb5.mono hb4.size)
  replace h0 := h0.below hb35
  replace hown := hown.below hb35
  replace hb := chain hb hb35
  clear hb4 hb5 hb35 x0 x1 hown4
  generalize w4.alloc _ = w5 at *
  have hof := of17_any _ 1 c2 [⟨64, 3⟩] 64 64 w5 hown.rd ex_right (by omega) (by omega) (by omega)
  rw [ex_of] at hof
  simp only [Int.cast_ofNat_Int] at hof
  have HOF := Lib.hid hof
  clear hof
  obtain ⟨x0, x1⟩ := at1 h0
  obtain ⟨y0, y1⟩ := at1 h1
  obtain ⟨g', off, eA, hgl, he⟩ := hown.rd.elem Ct.row_length (by omega) (k := 0) (by simp)
  have e0 := he 0 _ rfl
  injection eA with eA
  injection eA with eA eO _
  subst eA; subst eO
  simp only [Nat.zero_add, Nat.zero_mul, List.getElem_cons_zero, Int.cast_ofNat_Int] at e0
  have f0 := hown.frozenAt 0
  have HB := Lib.hid hb
  clear hown hb he
  have hg5 := hgl
  go_wp2_with ((with_reducible refine calls_id ?_); refine HOF.out.mono ?_; rintro r w6 ⟨rfl, hb6⟩; (have h0' := h0.below hb6); (have h1' := h1.below hb6); (obtain ⟨u0, u1⟩ := at1 h0'); (obtain ⟨v0, v1⟩ := at1 h1'); (have e0' := ((bcell hb6).1 _ 0 hgl).trans e0); (have f0' := ((bcell hb6).2.1 _ 0 hgl).trans f0); have HB := Lib.hid (chain HB.out hb6))
  go_ret
  exact ⟨rfl, HB.out⟩
end Go.Proofs.Ytcepknjcgknidaa
