
/- Chapter 17: counts of a handle, as rows of two cells. -/
import Derived.Test.YtcepknjcgknidaaKnow
import Derived.Test.YtcepknjcgknidaaBytes
namespace Go.Proofs.Ytcepknjcgknidaa
set_option linter.unusedVariables false
set_option linter.unusedSimpArgs false
open Go.RowKit
structure Ct where
  b : Nat
  n : Int
instance : Inhabited Ct := ⟨⟨0, 0⟩⟩
instance : DecidableEq Ct := fun x y => decidable_of_iff (x.b = y.b ∧ x.n = y.n) (by cases x; cases y; simp)
def Ct.row (x : Ct) : List Value := [.int .u32 (x.b : Int), .int .i64 x.n]
def Ct.v (x : Ct) : Value := .agg x.row.toArray
def Ct.fits (x : Ct) : Prop := x.b < 4294967296 ∧ -9223372036854775808 ≤ x.n ∧ x.n < 9223372036854775808
theorem Ct.row_length (x : Ct) : x.row.length = 2 := rfl
theorem ct_one (x : Ct) : ∀ u ∈ x.row, u.oneCell' = true := by intro u hu; simp [Ct.row] at hu; rcases hu with rfl | rfl <;> rfl
theorem cts_one (l : List Ct) : ∀ u ∈ l.flatMap Ct.row, u.oneCell' = true := by
  intro u hu
  obtain ⟨x, _, h⟩ := List.mem_flatMap.1 hu
  exact ct_one x u h
theorem cts_len (l : List Ct) : (l.flatMap Ct.row).length = l.length * 2 := flat_length Ct.row_length l
theorem cts_append (l m : List Ct) : (l ++ m).flatMap Ct.row = l.flatMap Ct.row ++ m.flatMap Ct.row := by rw [List.flatMap_append]
theorem info_ct : (Try.prog.info? 96).map (fun i => (i.zero, i.size, i.bytes)) = some (some (Value.agg #[.int .u32 0, .int .i64 0]), 2, 16) := by kernel_rfl
theorem info_rct : (Try.prog.info? 95).map (fun i => (i.zero, i.size, i.bytes)) = some (some (Value.agg #[.int .u32 0, .int .i64 0]), 2, 16) := by kernel_rfl
abbrev RdC (w : World) (B : Nat) (A : Option Addr) (n c : Nat) (l : List Ct) : Prop := Rd w B 2 A n c (l.flatMap Ct.row)
def OwnC (w : World) (B : Nat) (A : Option Addr) (n c : Nat) (l : List Ct) : Prop := w.ownsRow B 96 2 (.slice A n c) n (l.flatMap Ct.row)
def OwnRC (w : World) (B : Nat) (A : Option Addr) (n c : Nat) (l : List Ct) : Prop := w.ownsRow B 95 2 (.slice A n c) n (l.flatMap Ct.row)
theorem OwnC.below {w w' : World} {B n c : Nat} {A : Option Addr} {l : List Ct} (h : OwnC w B A n c l) (hb : Below w.heap.size w w') : OwnC w' B A n c l := own_mod h ((Mod.refl (fun _ _ => False) w).below hb) (by simp)
theorem OwnRC.below {w w' : World} {B n c : Nat} {A : Option Addr} {l : List Ct} (h : OwnRC w B A n c l) (hb : Below w.heap.size w w') : OwnRC w' B A n c l := own_mod h ((Mod.refl (fun _ _ => False) w).below hb) (by simp)
theorem OwnC.len {w : World} {B n c : Nat} {A : Option Addr} {l : List Ct} (h : OwnC w B A n c l) : n = l.length := by have := h.1; rw [cts_len] at this; omega
theorem OwnRC.len {w : World} {B n c : Nat} {A : Option Addr} {l : List Ct} (h : OwnRC w B A n c l) : n = l.length := by have := h.1; rw [cts_len] at this; omega
theorem OwnC.rd {w : World} {B n c : Nat} {A : Option Addr} {l : List Ct} (h : OwnC w B A n c l) : RdC w w.heap.size A n c l := Rd.of_own h
theorem OwnRC.rd {w : World} {B n c : Nat} {A : Option Addr} {l : List Ct} (h : OwnRC w B A n c l) : RdC w w.heap.size A n c l := Rd.of_own h
theorem RdC.len {w : World} {B n c : Nat} {A : Option Addr} {l : List Ct} (h : RdC w B A n c l) : l.length = n := Rd.count Ct.row_length (by omega) h
/-- append(s, x...) of the program's counts -/
theorem app_c {ops : Array Oper} {rest : List Oper} {o : Oper} {a : Act} {w : World} {Q : Exit → Act → World → Prop} (hgd : o.guard = none) (s x : Operand)
    (ho : o.op = .call { callee := .builtin .append, args := #[s, x], argTypes := #[60, 60] })
    {base : Nat} {A' : Option Addr} {n c' : Nat} {l : List Ct} (hs : a.eval s = .slice A' n c') (hown : OwnC w base A' n c' l)
    {B : Nat} {A : Option Addr} {m c : Nat} (y : List Ct) (hx : a.eval x = .slice A m c) (hr : RdC w B A m c y) (hbase : base ≤ w.heap.size) (hsz : n + m ≤ 1099511627776)
    (h : ∀ A2 c2 w', OwnC w' base A2 (n + m) c2 (l ++ y) → w.grownBy w' (Value.slice A' n c').ownBlock → wpList Try.prog ops Q rest (a.put o.dst (.slice A2 (n + m) c2)) w') : wpList Try.prog ops Q (o :: rest) a w := by
  obtain ⟨i0, hi0, hz0, hz1, hz2⟩ := info_parts info_ct
  refine wpList_app w hgd s x _ ho base 96 i0 _ 2 16 Try.underlying60 hi0 hz0 hz1 hz2 rfl (by omega) A' n c' _ hs hown B A m c _ hx hr (cts_one y) ?_ (by omega) (by simp only [maxLen]; omega) hbase
  intro A2 c2 w' h1 h2 _ _
  exact h A2 c2 w' (by unfold OwnC; rw [cts_append]; exact h1) h2
/-- .. and of the reference's -/
theorem app_rc {ops : Array Oper} {rest : List Oper} {o : Oper} {a : Act} {w : World} {Q : Exit → Act → World → Prop} (hgd : o.guard = none) (s x : Operand)
    (ho : o.op = .call { callee := .builtin .append, args := #[s, x], argTypes := #[59, 59] })
    {base : Nat} {A' : Option Addr} {n c' : Nat} {l : List Ct} (hs : a.eval s = .slice A' n c') (hown : OwnRC w base A' n c' l)
    {B : Nat} {A : Option Addr} {m c : Nat} (y : List Ct) (hx : a.eval x = .slice A m c) (hr : RdC w B A m c y) (hbase : base ≤ w.heap.size) (hsz : n + m ≤ 1099511627776)
    (h : ∀ A2 c2 w', OwnRC w' base A2 (n + m) c2 (l ++ y) → w.grownBy w' (Value.slice A' n c').ownBlock → wpList Try.prog ops Q rest (a.put o.dst (.slice A2 (n + m) c2)) w') : wpList Try.prog ops Q (o :: rest) a w := by
  obtain ⟨i0, hi0, hz0, hz1, hz2⟩ := info_parts info_rct
  refine wpList_app w hgd s x _ ho base 95 i0 _ 2 16 Try.underlying59 hi0 hz0 hz1 hz2 rfl (by omega) A' n c' _ hs hown B A m c _ hx hr (cts_one y) ?_ (by omega) (by simp only [maxLen]; omega) hbase
  intro A2 c2 w' h1 h2 _ _
  exact h A2 c2 w' (by unfold OwnRC; rw [cts_append]; exact h1) h2
theorem OwnC.nil {w : World} {B : Nat} : OwnC w B none 0 0 [] := World.ownsRow_nil _ _ _ _
theorem OwnRC.nil {w : World} {B : Nat} : OwnRC w B none 0 0 [] := World.ownsRow_nil _ _ _ _
theorem OwnC.made {w : World} {base : Nat} (h : base ≤ w.heap.size) : OwnC (w.alloc (.cells #[] 96)) base (some ⟨w.heap.size, 0, none⟩) 0 0 [] := World.ownsRow_made w #[] 0 h (by simp [maxLen]) rfl
set_option maxHeartbeats 400000 in
/-- slices.Clone -/
theorem cclone_any (A : Option Addr) (n c : Nat) (l : List Ct) (w : World) (hr : RdC w w.heap.size A n c l) (hn : n ≤ 1099511627776) :
    Calls Try.prog 63 #[.slice A n c] w fun e w' => ∃ A2 c2, e = .returned (.slice A2 n c2) ∧ OwnC w' w.heap.size A2 n c2 l ∧ Below w.heap.size w w' := by
  have hq := fun w => Lib.run_eql_slice_nil (P := Try.prog) w 60 96 A n c 0 0 Try.underlying60
  rcases A with _ | a
  · have hc : c = 0 := by
      rcases Nat.eq_zero_or_pos c with h0 | h0
      · exact h0
      · obtain ⟨g, off, e, _⟩ := hr.cells h0
        cases e
    have h1 := hr.le
    have h2 := RdC.len hr
    subst hc
    obtain rfl : n = 0 := by omega
    obtain rfl : l = [] := List.eq_nil_of_length_eq_zero h2
    clear hr h1 h2
    go_enter Try.func63, Try.ntmps63
    go_wp2
    go_ret
    exact ⟨none, 0, rfl, OwnC.nil, Below.refl _ _⟩
  · go_enter Try.func63, Try.ntmps63
    go_wp2_with (at_builtin; refine app_c rfl (.tmp 5) (.tmp 6) rfl rfl (OwnC.made (Nat.le_refl _)) l rfl (hr.alloc (Nat.le_refl _) _) ?c1 ?c2 ?_; rotate_right; intro A2 c2 w1 hown hG)
    case c1 => simp
    case c2 => omega
    go_ret
    simp only [Nat.zero_add, List.nil_append] at hown
    exact ⟨A2, c2, by simp, hown, ((Below.refl _ _).alloc (Nat.le_refl _) _).trans (below_of_app (OwnC.made (Nat.le_refl _)) hG (by simp))⟩
end Go.Proofs.Ytcepknjcgknidaa
