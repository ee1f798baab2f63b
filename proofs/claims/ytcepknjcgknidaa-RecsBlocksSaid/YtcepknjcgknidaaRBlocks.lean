
/- Chapter 13: the reference's blocks. -/
import Derived.Test.YtcepknjcgknidaaBlocksB
namespace Go.Proofs.Ytcepknjcgknidaa
set_option linter.unusedVariables false
set_option linter.unusedSimpArgs false
open Go.RowKit
/-- the addresses of the first m blocks -/
def adds (a m : Nat) : List Value := (List.range m).map fun (i : Nat) => .int .u32 ((a : Int) + 64 * (i : Int))
theorem adds_length (a m : Nat) : (adds a m).length = m := by simp [adds]
theorem adds_snoc (a m : Nat) : adds a m ++ [.int .u32 ((a : Int) + 64 * (m : Int))] = adds a (m + 1) := by simp [adds, List.range_succ]
theorem adds_get {a m i : Nat} (h : i < m) : (adds a m)[i]? = some (.int .u32 ((a : Int) + 64 * (i : Int))) := by
  simp [adds, h]
theorem info_u32 : (Try.prog.info? 33).map (fun i => (i.zero, i.size, i.bytes)) = some (some (.int .u32 0), 1, 4) := by kernel_rfl
def OwnU (w : World) (B : Nat) (A : Option Addr) (n c : Nat) (a : Nat) : Prop := w.ownsRow B 33 1 (.slice A n c) n (adds a n)
theorem OwnU.below {w w' : World} {B n c a : Nat} {A : Option Addr} (h : OwnU w B A n c a) (hb : Below w.heap.size w w') : OwnU w' B A n c a := own_mod h ((Mod.refl (fun _ _ => False) w).below hb) (by simp)
theorem app_u32 {ops : Array Oper} {rest : List Oper} {o : Oper} {a : Act} {w : World} {Q : Exit → Act → World → Prop} (hgd : o.guard = none) (s x : Operand)
    (ho : o.op = .call { callee := .builtin .append, args := #[s, x], argTypes := #[38, 38] })
    {base : Nat} {A' : Option Addr} {n c' ad : Nat} (hs : a.eval s = .slice A' n c') (hown : OwnU w base A' n c' ad)
    {B : Nat} {A : Option Addr} {c : Nat} (hx : a.eval x = .slice A 1 c) (hr : Rd w B 1 A 1 c [.int .u32 ((ad : Int) + 64 * (n : Int))]) (hbase : base ≤ w.heap.size) (hsz : n ≤ 1000000)
    (h : ∀ A2 c2 w', OwnU w' base A2 (n + 1) c2 ad → Below base w w' → w.grownBy w' (Value.slice A' n c').ownBlock → wpList Try.prog ops Q rest (a.put o.dst (.slice A2 (n + 1) c2)) w') : wpList Try.prog ops Q (o :: rest) a w := by
  obtain ⟨i0, hi0, hz0, hz1, hz2⟩ := info_parts info_u32
  refine wpList_app w hgd s x _ ho base 33 i0 _ 1 4 Try.underlying38 hi0 hz0 hz1 hz2 rfl (by omega) A' n c' _ hs hown B A 1 c _ hx hr (by intro u hu; simp at hu; subst hu; rfl) ?_ (by omega) (by simp only [maxLen]; omega) hbase
  intro A2 c2 w' h1 h2 _ _
  exact h A2 c2 w' (by unfold OwnU; rw [← adds_snoc]; exact h1) (below_of_app hown h2 hbase) h2
theorem rblocks_no (p : Pool) (hp : p.a < 4294967296) (h : p.right = false) (w : World) : Calls Try.prog 19 #[p.v] w fun x w' => x = .returned (.slice none 0 0) ∧ Below w.heap.size w w' := by
  obtain ⟨hx, hb⟩ := one_at w 37 p.row
  have hr := rright_pool p hp (w.alloc (.cells p.row.toArray 37))
  rw [h] at hr
  unfold Pool.v at *
  unfold Pool.row at *
  have HB := Lib.hid hb
  have HR := Lib.hid hr
  clear hx hb hr h
  go_enter Try.func19, Try.ntmps19
  go_wp2_with fail
  refine HR.out.mono ?_
  rintro x w1 ⟨rfl, hb1⟩
  go_wp2_with fail
  go_ret
  exact ⟨rfl, chain HB.out hb1⟩
set_option maxHeartbeats 1000000 in
theorem rblocks_yes (p : Pool) (hp : p.a < 4294967296) (h : p.right = true) (w : World) : Calls Try.prog 19 #[p.v] w fun x w' => ∃ A c, x = .returned (.slice A p.cnt c) ∧ OwnU w' w.heap.size A p.cnt c p.a ∧ Below w.heap.size w w' := by
  obtain ⟨hx, hb⟩ := one_at w 37 p.row
  have hr := rright_pool p hp (w.alloc (.cells p.row.toArray 37))
  rw [h] at hr
  obtain ⟨m, hm, h16, h26⟩ := right_in h
  have hrn : rightN p.a (m : Int) = true := by rw [← hm]; exact h
  have hcnt : p.cnt = cntN m := by unfold Pool.cnt; rw [if_pos h, hm]; rfl
  have hsz := fun w => size_ok p.a m (64 * cntN m) hp hrn rfl w
  have hov := fun k (hk : k < cntN m) => no_over hp hrn hk
  have hbd := cnt_bound p
  rw [hcnt] at hbd ⊢
  generalize cntN m = n at *
  obtain ⟨a, b, o⟩ := p
  simp only at hm hp hsz hov ⊢
  subst hm
  unfold Pool.v at *
  unfold Pool.row at *
  simp only at *
  have HB := Lib.hid hb
  have HR := Lib.hid hr
  have HX := Lib.hid hx
  have HS := Lib.hid hsz
  have HO := Lib.hid hov
  clear hx hb hr h hsz hov hrn hcnt
  go_enter Try.func19, Try.ntmps19
  go_wp2_with fail
  refine HR.out.mono ?_
  rintro x w1 ⟨rfl, hb1⟩
  have hx1 := HX.out.below hb1
  have hB1 := chain HB.out hb1
  have HX := Lib.hid hx1
  have HB := Lib.hid hB1
  clear hx1 hB1 hb1 HR
  go_wp2_with fail
  go_loopw [3, 4] (fun v i wr => ∃ (k : Nat) (A : Option Addr) (c : Nat), i = .int .i64 (k : Int) ∧ k ≤ n ∧ v = .slice A k c ∧ OwnU wr w.heap.size A k c a ∧ At wr w.heap.size 37 [.int .u32 (a : Int), .int .i64 (m : Int), .bool o] ∧ Below w.heap.size w wr) (fun _ i _ => n - (intOf i).toNat)
  case atStart => exact ⟨0, none, 0, rfl, Nat.zero_le _, rfl, World.ownsRow_nil _ _ _ _, HX.out, HB.out⟩
  case round =>
    clear HX HB
    obtain ⟨k, A, c, rfl, hk, rfl, hown, hx, hb⟩ := hrel
    have hq : (64 * (n : Int)) / 64 = (n : Int) := by omega
    have hq2 : ((64 * n : Nat) : Int) / 64 = (n : Int) := by omega
    obtain ⟨⟨c0, c1, c2⟩, _⟩ := at3 hx
    by_cases hlt : k < n
    · have hov := HO.out k hlt
      have HX := Lib.hid hx
      have HB := Lib.hid hb
      have HW := Lib.hid hown
      clear hx hb hown
      go_wp2_with fail
      refine (HS.out _).mono ?_
      rintro x w2 ⟨rfl, hb2⟩
      have hx := HX.out.below hb2
      have hb := chain HB.out hb2
      have hown := HW.out.below hb2
      clear HX HB HW hb2 c0 c1 c2
      obtain ⟨⟨c0, c1, c2⟩, _⟩ := at3 hx
      have hw3 : IntKind.u32.wrap (64 * (k : Int)) = 64 * (k : Int) := by rw [IntKind.wrap_u32]; omega
      have hbn := (one_at w2 33 [.int .u32 ((a : Int) + 64 * (k : Int))]).2
      have hN := Rd.lit (w := w2) (t := 33) (n := 1) (cs := [.int .u32 ((a : Int) + 64 * (k : Int))]) rfl (by simp [maxLen]) (by omega : 0 < 1)
      have hown2 := hown.below hbn
      have hx2 := hx.below hbn
      have hB2 := chain hb hbn
      have hz2 := hB2.size
      have HX := Lib.hid hx2
      have HB := Lib.hid hB2
      clear hx2 hB2 hx hb hown hbn
      go_wp2_with (at_builtin; refine app_u32 rfl (.tmp 16) (.tmp 24) rfl rfl hown2 rfl hN hz2 (by omega) ?_; intro A3 c3 w3 h13 hb3 hG3)
      have hx3 := HX.out.own hown2 hG3 (by decide)
      have hB3 := HB.out.trans hb3
      go_roundw
      case rel => exact ⟨k + 1, A3, c3, by go_num, by omega, rfl, h13, hx3, hB3⟩
      case measure => simp [intOf]; omega
    · obtain rfl : k = n := by omega
      have HX := Lib.hid hx
      have HB := Lib.hid hb
      have HW := Lib.hid hown
      clear hx hb hown
      go_wp2_with fail
      refine (HS.out _).mono ?_
      rintro x w2 ⟨rfl, hb2⟩
      go_wp2_with fail
      go_ret
      exact ⟨A, c, rfl, HW.out.below hb2, chain HB.out hb2⟩
end Go.Proofs.Ytcepknjcgknidaa
