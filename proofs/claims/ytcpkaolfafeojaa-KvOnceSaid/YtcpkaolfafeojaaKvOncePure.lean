
/- Chapter 9: what is spent: a key at a revision is taken once. Rows of what is used. -/
import Derived.Test.YtcpkaolfafeojaaKvInv
namespace Go.Proofs.Ytcpkaolfafeojaa
set_option linter.unusedVariables false
set_option linter.unusedSimpArgs false
open Go.RowKit
structure Us where
  k : ByteArray
  r : Int
instance : Inhabited Us := ⟨⟨⟨#[]⟩, 0⟩⟩
def Us.row (x : Us) : List Value := [.string x.k, .int .i64 x.r]
theorem Us.row_length (x : Us) : x.row.length = 2 := rfl
def Spent (rev : Int) (l : List It) (us : List Us) : Prop := ∀ u ∈ us, u.r ≤ rev ∧ ∀ x ∈ l, x.k = u.k → u.r < x.r
theorem Spent.nil (rev : Int) (l : List It) : Spent rev l [] := by intro u hu; cases hu
theorem applyL_key {e : It} {d : Bool} {l : List It} {x : It} (ha : Asc l) (h : x ∈ applyL e d l) (hk : x.k = e.k) : x = e := by
  obtain ⟨p, m, q, hc⟩ := cutI e.k l ha
  rw [hc.apply d] at h
  simp only [List.mem_append] at h
  rcases h with h | h | h
  · exact absurd hk (kless_ne (hc.less x h))
  · cases d
    · simpa using h
    · simp at h
  · exact absurd hk.symm (kless_ne (hc.more x h))
theorem once_step {rev : Int} {l : List It} {n : Nat} {p : Ask} {us : List Us} (h : Inv9 rev l n) (hn : n < 1000000) (hs : Spent rev l us) :
    ((planP rev l p).wr = false ∧ doSt rev l p = (rev, l) ∧ (p.kind < 3 ∨ 5 < p.kind ∨ (planP rev l p).told.code ≠ 0)) ∨
    (3 ≤ p.kind ∧ p.kind ≤ 5 ∧ (planP rev l p).told.code = 0 ∧ (planP rev l p).told.rev = rev + 1 ∧ (doSt rev l p).1 = rev + 1 ∧ Spent (doSt rev l p).1 (doSt rev l p).2 us ∧
      (p.kind ≠ 3 → (∀ u ∈ us, u ≠ ⟨p.key, p.rev⟩) ∧ Spent (doSt rev l p).1 (doSt rev l p).2 (us ++ [⟨p.key, p.rev⟩]))) := by
  have hlo := h.lo
  have hhi := h.hi
  cases hw : (planP rev l p).wr with
  | false =>
    refine .inl ⟨rfl, ?_, ?_⟩
    · rw [doSt_eq hlo (by omega), hw]; simp
    · unfold planP at hw ⊢
      by_cases h1 : p.kind = 1
      · exact .inl (by omega)
      · by_cases h2 : p.kind = 2
        · exact .inl (by omega)
        · rw [if_neg h1, if_neg h2] at hw ⊢
          by_cases h3 : p.kind < 3 ∨ 5 < p.kind
          · rcases h3 with h3 | h3
            · exact .inl h3
            · exact .inr (.inl h3)
          · rw [if_neg h3] at hw ⊢
            by_cases h4 : mayE l p ≠ 0
            · rw [if_pos h4]; exact .inr (.inr h4)
            · rw [if_neg h4] at hw; cases hw
  | true =>
    obtain ⟨a1, a2, a3, a4⟩ := plan_wr hw
    obtain ⟨b1, b2, b3, b4, _⟩ := may_zero a3
    have hd := doSt_eq (l := l) (o := p) hlo (show rev < 9223372036854775807 by omega)
    rw [hw] at hd
    simp only [if_true] at hd
    have hold : Spent (doSt rev l p).1 (doSt rev l p).2 us := by
      intro u hu
      obtain ⟨c1, c2⟩ := hs u hu
      rw [hd]
      refine ⟨by simp only; omega, fun x hx hxk => ?_⟩
      rcases applyL_mem h.asc hx with rfl | hx
      · simp only; omega
      · exact c2 x hx hxk
    refine .inr ⟨a1, a2, by rw [a4], by rw [a4]; exact inc_small hlo (by omega), by rw [hd], hold, fun hk => ?_⟩
    obtain ⟨hfs, hfr⟩ := b4 hk
    obtain ⟨x, hx⟩ := Option.isSome_iff_exists.1 hfs
    obtain ⟨hxm, hxk⟩ := find_mem hx
    have hxr : x.r = p.rev := by rw [← hfr]; simp [getI, hx]
    have hxl := (h.ok x hxm).2.2.2
    refine ⟨fun u hu e => ?_, fun u hu => ?_⟩
    · have := (hs u hu).2 x hxm (by rw [hxk, e])
      rw [e] at this
      simp only at this
      omega
    · rcases List.mem_append.1 hu with hu | hu
      · exact hold u hu
      · rw [List.mem_singleton] at hu
        subst hu
        rw [hd]
        refine ⟨by simp only; omega, fun y hy hyk => ?_⟩
        have := applyL_key h.asc hy hyk
        rw [this]
        simp only
        omega
theorem info_used : (Try.prog.info? 77).map (fun i => (i.zero, i.size, i.bytes)) = some (some (Value.agg #[.string ⟨#[]⟩, .int .i64 0]), 2, 24) := by kernel_rfl
theorem us_one (l : List Us) : ∀ u ∈ l.flatMap Us.row, u.oneCell' = true := by
  intro u hu
  obtain ⟨x, _, h⟩ := List.mem_flatMap.1 hu
  simp [Us.row] at h
  rcases h with rfl | rfl <;> rfl
theorem us_append (l m : List Us) : (l ++ m).flatMap Us.row = l.flatMap Us.row ++ m.flatMap Us.row := by rw [List.flatMap_append]
abbrev RdU (w : World) (B : Nat) (A : Option Addr) (n c : Nat) (l : List Us) : Prop := Rd w B 2 A n c (l.flatMap Us.row)
def OwnU (w : World) (B : Nat) (A : Option Addr) (n c : Nat) (l : List Us) : Prop := w.ownsRow B 77 2 (.slice A n c) n (l.flatMap Us.row)
section
variable {w w' : World} {B B' n c : Nat} {A : Option Addr} {l : List Us}
theorem OwnU.step (h : OwnU w B A n c l) (hb : Below w.heap.size w w') : OwnU w' B A n c l := own_below h hb
theorem OwnU.len (h : OwnU w B A n c l) : l.length = n := by have := h.1; rw [flat_length Us.row_length] at this; omega
theorem OwnU.rd (h : OwnU w B A n c l) : RdU w w.heap.size A n c l := Rd.of_own h
theorem OwnU.nil : OwnU w B none 0 0 [] := World.ownsRow_nil _ _ _ _
end
theorem app_us {ops : Array Oper} {rest : List Oper} {o : Oper} {a : Act} {w : World} {Q : Exit → Act → World → Prop} (hgd : o.guard = none) (s x : Operand)
    (ho : o.op = .call { callee := .builtin .append, args := #[s, x], argTypes := #[73, 73] })
    {base : Nat} {A' : Option Addr} {n c' : Nat} {l : List Us} (hs : a.eval s = .slice A' n c') (hown : OwnU w base A' n c' l)
    {B : Nat} {A : Option Addr} {m c : Nat} (y : List Us) (hx : a.eval x = .slice A m c) (hr : RdU w B A m c y) (hbase : base ≤ w.heap.size) (hsz : n + m ≤ 1099511627776)
    (h : ∀ A2 c2 w', OwnU w' base A2 (n + m) c2 (l ++ y) → w.grownBy w' (Value.slice A' n c').ownBlock → Below base w w' → wpList Try.prog ops Q rest (a.put o.dst (.slice A2 (n + m) c2)) w') : wpList Try.prog ops Q (o :: rest) a w := by
  obtain ⟨i0, hi0, hz0, hz1, hz2⟩ := info_parts info_used
  refine wpList_app w hgd s x _ ho base 77 i0 _ 2 24 Try.underlying73 hi0 hz0 hz1 hz2 rfl (by omega) A' n c' _ hs hown B A m c _ hx hr (us_one y) ?_ (by omega) (by simp only [maxLen]; omega) hbase
  intro A2 c2 w' h1 h2 _ _
  exact h A2 c2 w' (by unfold OwnU; rw [us_append]; exact h1) h2 (below_of_app hown h2 hbase)
/-- the state is not touched when another row of its own grows -/
theorem IsSt.apart {w w' : World} {g b N B n : Nat} {rev : Int} {l : List It} {s : Nat} {e : TypeId} {v : Value} {xs : List Value} (h : IsSt w g b N rev l) (hown : w.ownsRow B e s v n xs) (hG : w.grownBy w' v.ownBlock) (hg : g < B) (hb : b < B) : IsSt w' g b N rev l :=
  h.mod (grown_mod hG) (fun o e => by have := (hown.lt _ e).1; omega) (fun o e => by have := (hown.lt _ e).1; omega)
end Go.Proofs.Ytcpkaolfafeojaa
