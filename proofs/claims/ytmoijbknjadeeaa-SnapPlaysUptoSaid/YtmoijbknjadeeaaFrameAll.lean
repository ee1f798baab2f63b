
/- frame.All, the reference's All, and whether two rows of records are the same. -/
import Derived.Test.YtmoijbknjadeeaaRef05
import Derived.Test.YtmoijbknjadeeaaRowsB
namespace Go.Proofs.Ytmoijbknjadeeaa
set_option linter.unusedVariables false
set_option linter.unusedSimpArgs false
open Go.RowKit

set_option maxHeartbeats 1000000 in
theorem fall_any (A : Option Addr) (n c : Nat) (b : List UInt8) (w : World) (hr : RdB w w.heap.size A n c b) (hn : n ≤ 1048576) :
    Calls Try.prog 61 #[.slice A n c] w fun e w' => ∃ (A2 : Option Addr) (c2 : Nat) (ys : List Bsl) (k code : Nat), e = .returned (.tuple #[.slice A2 ys.length c2, .int .i64 (k : Int), .int .i64 (code : Int)]) ∧
      AllR b (ys.map Bsl.l) k code ∧ OwnS w' w.heap.size A2 ys.length c2 ys ∧ Below w.heap.size w w' := by
  have hlen := hr.length
  have hle := hr.le
  have hmax := hr.max
  unfold maxLen at hmax
  go_enter Try.func61, Try.ntmps61
  go_wp2_with fail
  go_loopw [5, 6] (fun v i wr => ∃ (ys : List Bsl) (k : Nat) (A2 : Option Addr) (c2 m : Nat), v = .slice A2 m c2 ∧ i = .int .i64 (k : Int) ∧ k ≤ n ∧ Got b (ys.map Bsl.l) k ∧ OwnS wr w.heap.size A2 m c2 ys ∧ Below w.heap.size w wr ∧ m ≤ k) (fun _ i _ => n - (intOf i).toNat)
  case atStart => exact ⟨[], 0, none, 0, 0, rfl, rfl, Nat.zero_le _, Got.nil b, OwnS.nil, Below.refl _ _, Nat.le_refl _⟩
  case round =>
    obtain ⟨ys, k, A2, c2, m, rfl, rfl, hk, hgot, hown, hbr, hmk⟩ := hrel
    have HG := Lib.hid hgot
    clear hgot
    obtain ⟨A3, c3, hval, hr3⟩ : ∃ A3 c3, (if c = k then Value.slice A 0 0 else Value.slice (A.map (·.add k)) (n - k) (c - k)) = .slice A3 (n - k) c3 ∧ RdB wr wr.heap.size A3 (n - k) c3 (b.drop k) := by
      have hd := (RdB.drop hr (k := k) hk).below hbr |>.more hbr.size
      by_cases hck : c = k
      · rw [if_pos hck] at hd ⊢
        rw [show n - k = 0 from by omega, show c - k = 0 from by omega] at *
        exact ⟨A, 0, rfl, hd⟩
      · rw [if_neg hck] at hd ⊢
        exact ⟨_, _, rfl, hd⟩
    have hnx := next_any A3 (n - k) c3 _ wr hr3 (by omega)
    have hz := next_zero (b.drop k)
    have hle2 := next_le (b.drop k)
    have hst := HG.out.stop (e := (nextF (b.drop k)).1) rfl
    have hsp := fun p m h => HG.out.step (p := p) (n := m) h
    have hdl : (b.drop k).length = n - k := by simp; omega
    rw [hdl] at hle2
    generalize nextF (b.drop k) = r at *
    obtain ⟨code, p, sz⟩ := r
    simp only at hnx hz hle2 hst
    have HN := Lib.hid hnx
    have HS := Lib.hid hst
    have HP := Lib.hid hsp
    clear hnx hst hsp hdl hlen
    by_cases hck : c = k
    · rw [if_pos hck] at hval
      injection hval with v1 v2 v3
      subst v1
      subst v3
      obtain rfl : n = k := by omega
      obtain rfl : n = c := by omega
      have hcode : code ≠ 0 := by
        intro h
        have := hz h
        omega
      have hN := HN.out
      rw [Nat.sub_self] at hN hr3 hle2
      have HN := Lib.hid hN
      clear hN hz hck v2
      have hne : ((code : Int) != 0) = true := by simp; omega
      have hfin := HS.out hcode
      have HF := Lib.hid hfin
      clear hfin hcode
      go_wp2_with fail
      refine HN.out.mono ?_
      rintro e w1 ⟨A4, c4, rfl, hown4, hb4⟩
      go_wp2_with fail
      go_ret3
      obtain rfl : ys.length = m := hown.length
      exact ⟨A2, c2, ys, _, code, rfl, HF.out, hown.below hb4 hbr.size, chain hbr hb4⟩
    · rw [if_neg hck] at hval
      injection hval with v1 v2 v3
      subst v1
      subst v3
      by_cases hc0 : code = 0
      · subst hc0
        obtain ⟨hz1, hz2⟩ := hz rfl
        go_wp2_with fail
        refine HN.out.mono ?_
        rintro e w1 ⟨A4, c4, rfl, hown4, hb4⟩
        have hb4' := chain hbr hb4
        have hown' : OwnS (w1.alloc (.cells #[.slice A4 p.length c4] 27)) w.heap.size A2 m c2 ys := (hown.below hb4 hbr.size).below ((Below.refl _ _).alloc (Nat.le_refl _) _) hb4'.size
        have helt : EltB (w1.alloc (.cells #[.slice A4 p.length c4] 27)) w.heap.size ⟨A4, p.length, c4, p⟩ := .inr ((hown4.lower hbr.size).alloc _)
        go_wp2_with (at_builtin; refine app_s rfl (.tmp 23) (.tmp 25) rfl rfl hown' ⟨A4, p.length, c4, p⟩ rfl Rd.one helt ?_ (by omega) (by have := hb4'.size; simp; omega); intro A5 c5 w5 hown5 hb5 _)
        go_roundw
        case rel =>
          refine ⟨ys ++ [⟨A4, p.length, c4, p⟩], k + sz, A5, c5, m + 1, rfl, by simp, by omega, ?_, hown5, (hb4'.alloc hb4'.size _).trans hb5, by omega⟩
          rw [List.map_append]
          exact HP.out p sz rfl
        case measure => simp [intOf]; omega
      · have hne : ((code : Int) != 0) = true := by simp; omega
        have hfin := HS.out hc0
        have HF := Lib.hid hfin
        clear hfin hc0
        go_wp2_with fail
        refine HN.out.mono ?_
        rintro e w1 ⟨A4, c4, rfl, hown4, hb4⟩
        go_wp2_with fail
        go_ret3
        obtain rfl : ys.length = m := hown.length
        exact ⟨A2, c2, ys, k, code, rfl, HF.out, hown.below hb4 hbr.size, chain hbr hb4⟩

set_option maxHeartbeats 1000000 in
theorem rall_any (A : Option Addr) (n c : Nat) (b : List UInt8) (w : World) (hr : RdB w w.heap.size A n c b) (hn : n ≤ 1048576) :
    Calls Try.prog 37 #[.slice A n c] w fun e w' => ∃ (A2 : Option Addr) (c2 : Nat) (ys : List Bsl) (k code : Nat), e = .returned (.tuple #[.slice A2 ys.length c2, .int .i64 (k : Int), .int .i64 (code : Int)]) ∧
      AllR b (ys.map Bsl.l) k code ∧ OwnS w' w.heap.size A2 ys.length c2 ys ∧ Below w.heap.size w w' := by
  have hlen := hr.length
  have hle := hr.le
  have hmax := hr.max
  unfold maxLen at hmax
  go_enter Try.func37, Try.ntmps37
  go_wp2_with fail
  go_loopw [5, 6] (fun v i wr => ∃ (ys : List Bsl) (k : Nat) (A2 : Option Addr) (c2 m : Nat), v = .slice A2 m c2 ∧ i = .int .i64 (k : Int) ∧ k ≤ n ∧ Got b (ys.map Bsl.l) k ∧ OwnS wr w.heap.size A2 m c2 ys ∧ Below w.heap.size w wr ∧ m ≤ k) (fun _ i _ => n - (intOf i).toNat)
  case atStart => exact ⟨[], 0, none, 0, 0, rfl, rfl, Nat.zero_le _, Got.nil b, OwnS.nil, Below.refl _ _, Nat.le_refl _⟩
  case round =>
    obtain ⟨ys, k, A2, c2, m, rfl, rfl, hk, hgot, hown, hbr, hmk⟩ := hrel
    have HG := Lib.hid hgot
    clear hgot
    have hnx := rnext_any A n c _ k b wr (hr.below hbr) (by omega) hk
    have hz := next_zero (b.drop k)
    have hle2 := next_le (b.drop k)
    have hst := HG.out.stop (e := (nextF (b.drop k)).1) rfl
    have hsp := fun p m h => HG.out.step (p := p) (n := m) h
    have hdl : (b.drop k).length = n - k := by simp; omega
    rw [hdl] at hle2
    generalize nextF (b.drop k) = r at *
    obtain ⟨code, p, sz⟩ := r
    simp only at hnx hz hle2 hst
    have HN := Lib.hid hnx
    have HS := Lib.hid hst
    have HP := Lib.hid hsp
    clear hnx hst hsp hdl hlen
    by_cases hc0 : code = 0
    · subst hc0
      obtain ⟨hz1, hz2⟩ := hz rfl
      clear hz
      have HZ := Lib.hid hz2
      have hz3 : 8 + p.length ≤ n - k := by omega
      have hz4 : p.length + 8 ≤ sz := by omega
      clear hz2
      go_wp2_with fail
      refine HN.out.mono ?_
      rintro e w1 ⟨A4, c4, rfl, hr4, rfl⟩
      have hown' : OwnS (wr.alloc (.cells #[.slice A4 p.length c4] 27)) w.heap.size A2 m c2 ys := hown.below ((Below.refl _ _).alloc (Nat.le_refl _) _) hbr.size
      have helt : EltB (wr.alloc (.cells #[.slice A4 p.length c4] 27)) w.heap.size ⟨A4, p.length, c4, p⟩ := .inl (RdB.alloc hr4 hbr.size _)
      go_wp2_with (at_builtin; refine app_s rfl (.tmp 20) (.tmp 22) rfl rfl hown' ⟨A4, p.length, c4, p⟩ rfl Rd.one helt ?_ (by omega) (by have := hbr.size; simp; omega); intro A5 c5 w5 hown5 hb5 _)
      go_roundw
      case rel =>
        have hzz := HZ.out
        refine ⟨ys ++ [⟨A4, p.length, c4, p⟩], k + sz, A5, c5, m + 1, rfl, ?_, by omega, ?_, hown5, (hbr.alloc hbr.size _).trans hb5, by omega⟩
        · rw [← hzz]
          simp
          omega
        · rw [List.map_append]
          exact HP.out p sz rfl
      case measure => simp [intOf]; omega
    · have hne : ((code : Int) != 0) = true := by simp; omega
      have hfin := HS.out hc0
      have HF := Lib.hid hfin
      clear hfin hc0
      go_wp2_with fail
      refine HN.out.mono ?_
      rintro e w1 ⟨A4, c4, rfl, hr4, rfl⟩
      go_wp2_with fail
      go_ret3
      obtain rfl : ys.length = m := hown.length
      exact ⟨A2, c2, ys, k, code, rfl, HF.out, hown, hbr⟩

end Go.Proofs.Ytmoijbknjadeeaa
