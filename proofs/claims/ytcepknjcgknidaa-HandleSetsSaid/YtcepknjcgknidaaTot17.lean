
/- Chapter 17: how many in all, the program's and the document's; the document's Of. -/
import Derived.Test.YtcepknjcgknidaaPut17
namespace Go.Proofs.Ytcepknjcgknidaa
set_option linter.unusedVariables false
set_option linter.unusedSimpArgs false
open Go.RowKit
def tot17 (l : List Ct) : Int := (l.map Ct.n).sum
theorem tot_snoc {l : List Ct} {k : Nat} (h : k < l.length) : tot17 (l.take (k + 1)) = tot17 (l.take k) + l[k].n := by
  rw [← take_snoc h]
  simp only [tot17, List.map_append, List.sum_append, List.map_cons, List.map_nil, List.sum_cons, List.sum_nil]
  omega
theorem tot_bounds {l : List Ct} (h : right17 l = true) : ∀ k, k ≤ l.length → 0 ≤ tot17 (l.take k) ∧ tot17 (l.take k) ≤ 65535 * k
  | 0, _ => by simp [tot17]
  | k + 1, hk => by
    have := tot_bounds h k (by omega)
    have hr := right_at h (k := k) (by omega)
    rw [tot_snoc (by omega)]
    omega
set_option maxRecDepth 100000 in
set_option maxHeartbeats 4000000 in
theorem tot17_any (A : Option Addr) (n c : Nat) (l : List Ct) (w : World) (hr : RdC w w.heap.size A n c l) (hq : right17 l = true) :
    Calls Try.prog 42 #[.agg #[.slice A n c]] w fun r w' => r = .returned (.int .i64 (tot17 l)) ∧ Below w.heap.size w w' := by
  have hl := RdC.len hr
  have hl4 := (of_decide_eq_true hq).2
  have hle := hr.le
  have hmax := hr.max
  unfold maxLen at hmax
  subst hl
  obtain ⟨h0, hb⟩ := one_at w 62 [.slice A l.length c]
  have HR := Lib.hid hr
  have HQ := Lib.hid hq
  clear hr hq
  go_enter Try.func42, Try.ntmps42
  go_upto_region 1 with fail
  have HB := Lib.hid hb
  obtain ⟨x0, x1⟩ := at1 h0
  clear hb h0
  generalize World.alloc _ _ = w1 at *
  go_wp2_with fail
  clear x0 x1
  go_loopw [3, 9] (fun v i wr => ∃ k : Nat, i = .int .i64 (k : Int) ∧ v = .int .i64 (tot17 (l.take k)) ∧ k ≤ l.length ∧ Below w.heap.size w wr) (fun _ i _ => l.length - (intOf i).toNat)
  case atStart => exact ⟨0, rfl, by simp [tot17], Nat.zero_le _, HB.out⟩
  case round =>
    clear HB
    obtain ⟨k, rfl, rfl, hk, hb⟩ := hrel
    have hsz := hb.size
    have htb := tot_bounds HQ.out k hk
    by_cases hlt : k < l.length
    · obtain ⟨g, off, e, hg, he⟩ := HR.out.elem Ct.row_length (by omega) (k := k) hlt
      subst e
      have hbc := bcell (Below.mono (B := w.heap.size) hb (Nat.le_refl _))
      have e0 := (hbc.1 _ _ hg).trans (he 0 _ rfl)
      have e1 := (hbc.1 _ _ hg).trans (he 1 _ rfl)
      rw [Nat.add_zero] at e0
      have hr3 := (right_at HQ.out hlt).2
      have HS := Lib.hid (tot_snoc hlt)
      clear he hbc
      generalize l[k] = y at *
      obtain ⟨yb, yn⟩ := y
      simp only at hr3 HS
      generalize hT : tot17 (l.take k) = T at *
      have HB := Lib.hid hb
      clear hb hT
      have hw : IntKind.i64.wrap (T + yn) = T + yn := IntWalk.i64_in _ (by omega)
      go_upto_region 5 with fail
      obtain ⟨hy, hb2⟩ := one_at wr 96 [.int .u32 (yb : Int), .int .i64 yn]
      have HB := Lib.hid (chain HB.out hb2)
      generalize World.alloc _ _ = w2 at *
      generalize wr.heap.size = gy at *
      obtain ⟨⟨y0, y1⟩, _⟩ := at2 hy
      clear hb2 e0 e1 hy
      go_wp2_with fail
      go_roundw
      case rel => exact ⟨k + 1, by go_num, by rw [HS.out], by omega, HB.out⟩
      case measure => simp [intOf]; omega
    · obtain rfl : k = l.length := by omega
      rw [List.take_length]
      have HB := Lib.hid hb
      clear hb
      go_wp2_with fail
      go_ret
      exact ⟨rfl, HB.out⟩
set_option maxRecDepth 100000 in
set_option maxHeartbeats 4000000 in
theorem rtot17_any (A : Option Addr) (n c : Nat) (l : List Ct) (w : World) (hr : RdC w w.heap.size A n c l) (hq : right17 l = true) :
    Calls Try.prog 47 #[.slice A n c] w fun r w' => r = .returned (.int .i64 (tot17 l)) ∧ Below w.heap.size w w' := by
  have hl := RdC.len hr
  have hl4 := (of_decide_eq_true hq).2
  have hle := hr.le
  have hmax := hr.max
  unfold maxLen at hmax
  subst hl
  have HR := Lib.hid hr
  have HQ := Lib.hid hq
  clear hr hq
  have HB := Lib.hid (Below.refl w.heap.size w)
  go_enter Try.func47, Try.ntmps47
  go_wp2_with fail
  go_loopw [3, 8] (fun v i wr => ∃ k : Nat, i = .int .i64 (k : Int) ∧ v = .int .i64 (tot17 (l.take k)) ∧ k ≤ l.length ∧ Below w.heap.size w wr) (fun _ i _ => l.length - (intOf i).toNat)
  case atStart => exact ⟨0, rfl, by simp [tot17], Nat.zero_le _, HB.out⟩
  case round =>
    clear HB
    obtain ⟨k, rfl, rfl, hk, hb⟩ := hrel
    have hsz := hb.size
    have htb := tot_bounds HQ.out k hk
    by_cases hlt : k < l.length
    · obtain ⟨g, off, e, hg, he⟩ := HR.out.elem Ct.row_length (by omega) (k := k) hlt
      subst e
      have hbc := bcell (Below.mono (B := w.heap.size) hb (Nat.le_refl _))
      have e0 := (hbc.1 _ _ hg).trans (he 0 _ rfl)
      have e1 := (hbc.1 _ _ hg).trans (he 1 _ rfl)
      rw [Nat.add_zero] at e0
      have hr3 := (right_at HQ.out hlt).2
      have HS := Lib.hid (tot_snoc hlt)
      clear he hbc
      generalize l[k] = y at *
      obtain ⟨yb, yn⟩ := y
      simp only at hr3 HS
      generalize hT : tot17 (l.take k) = T at *
      have HB := Lib.hid hb
      clear hb hT
      have hw : IntKind.i64.wrap (T + yn) = T + yn := IntWalk.i64_in _ (by omega)
      go_upto_region 5 with fail
      obtain ⟨hy, hb2⟩ := one_at wr 95 [.int .u32 (yb : Int), .int .i64 yn]
      have HB := Lib.hid (chain HB.out hb2)
      generalize World.alloc _ _ = w2 at *
      generalize wr.heap.size = gy at *
      obtain ⟨⟨y0, y1⟩, _⟩ := at2 hy
      clear hb2 e0 e1 hy
      go_wp2_with fail
      go_roundw
      case rel => exact ⟨k + 1, by go_num, by rw [HS.out], by omega, HB.out⟩
      case measure => simp [intOf]; omega
    · obtain rfl : k = l.length := by omega
      rw [List.take_length]
      have HB := Lib.hid hb
      clear hb
      go_wp2_with fail
      go_ret
      exact ⟨rfl, HB.out⟩
set_option maxRecDepth 100000 in
set_option maxHeartbeats 4000000 in
/-- the document's Of -/
theorem rof17_any (A : Option Addr) (n c : Nat) (l : List Ct) (a x : Nat) (w : World) (hr : RdC w w.heap.size A n c l) (hn : n ≤ 1000000) (hx : x = a - a % 64) (hal : a < 4294967296) :
    Calls Try.prog 39 #[.slice A n c, .int .u32 (a : Int)] w fun r w' => r = .returned (.int .i64 (of17 l x)) ∧ Below w.heap.size w w' := by
  have hl := RdC.len hr
  have hle := hr.le
  have hmax := hr.max
  unfold maxLen at hmax
  subst hl
  have HR := Lib.hid hr
  clear hr
  have HB := Lib.hid (Below.refl w.heap.size w)
  have hrem : ((a : Int) - (a : Int) % 64) = (x : Int) := by omega
  have HX := Lib.hid hx
  clear hx
  go_enter Try.func39, Try.ntmps39
  go_wp2_with fail
  go_loopw [9] (fun i wr => ∃ k : Nat, i = .int .i64 (k : Int) ∧ k ≤ l.length ∧ of17 l x = of17 (l.drop k) x ∧ Below w.heap.size w wr) (fun i _ => l.length - (intOf i).toNat)
  case atStart => exact ⟨0, rfl, Nat.zero_le _, rfl, HB.out⟩
  case round =>
    clear HB
    obtain ⟨k, rfl, hk, hof, hb⟩ := hrel
    have hsz := hb.size
    by_cases hlt : k < l.length
    · obtain ⟨g, off, e, hg, he⟩ := HR.out.elem Ct.row_length (by omega) (k := k) hlt
      subst e
      have hbc := bcell (Below.mono (B := w.heap.size) hb (Nat.le_refl _))
      have e0 := (hbc.1 _ _ hg).trans (he 0 _ rfl)
      have e1 := (hbc.1 _ _ hg).trans (he 1 _ rfl)
      rw [Nat.add_zero] at e0
      rw [← List.getElem_cons_drop hlt] at hof
      clear he hbc
      generalize l[k] = y at *
      obtain ⟨yb, yn⟩ := y
      simp only [of17, List.find?_cons] at hof
      have HB := Lib.hid hb
      clear hb
      by_cases hyx : yb = x
      · subst hyx
        have hof2 : of17 l yb = yn := by
          rw [show (yb == yb) = true from by simp] at hof; exact hof
        have HOF := Lib.hid hof2
        clear hof hof2
        go_upto_region 4 with fail
        obtain ⟨hy, hb2⟩ := one_at wr 95 [.int .u32 (yb : Int), .int .i64 yn]
        have HB := Lib.hid (chain HB.out hb2)
        generalize World.alloc _ _ = w2 at *
        generalize wr.heap.size = gy at *
        obtain ⟨⟨y0, y1⟩, _⟩ := at2 hy
        clear hb2 e0 e1 hy
        go_wp2_with fail
        go_ret
        exact ⟨by rw [HOF.out]; rfl, HB.out⟩
      · have hof2 : of17 l x = of17 (l.drop (k + 1)) x := by
          rw [show (yb == x) = false from beq_eq_false_iff_ne.mpr hyx] at hof; exact hof
        have HOF := Lib.hid hof2
        clear hof hof2
        go_upto_region 4 with fail
        obtain ⟨hy, hb2⟩ := one_at wr 95 [.int .u32 (yb : Int), .int .i64 yn]
        have HB := Lib.hid (chain HB.out hb2)
        generalize World.alloc _ _ = w2 at *
        generalize wr.heap.size = gy at *
        obtain ⟨⟨y0, y1⟩, _⟩ := at2 hy
        clear hb2 e0 e1 hy
        have hyi : ((yb : Int) == (x : Int)) = false := beq_eq_false_iff_ne.mpr (by omega)
        go_wp2_with fail
        go_roundw
        case rel => exact ⟨k + 1, by go_num, by omega, HOF.out, HB.out⟩
        case measure => simp [intOf]; omega
    · obtain rfl : k = l.length := by omega
      rw [List.drop_length] at hof
      have HOF := Lib.hid hof
      have HB := Lib.hid hb
      clear hb hof
      go_wp2_with fail
      go_ret
      exact ⟨by rw [HOF.out]; rfl, HB.out⟩
end Go.Proofs.Ytcepknjcgknidaa
