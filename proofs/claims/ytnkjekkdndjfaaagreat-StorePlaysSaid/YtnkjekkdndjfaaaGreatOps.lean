
/- Chapter 9's helpers: what is asked, as a value; Ours. -/
import Derived.Test.YtnkjekkdndjfaaaGreatRedo
import Derived.Test.YtnkjekkdndjfaaaGreatRedoB
namespace Go.Proofs.YtnkjekkdndjfaaaGreat
set_option linter.unusedVariables false
set_option linter.unusedSimpArgs false
open Go.RowKit
structure Ask where
  kind : Int
  key : ByteArray
  val : ByteArray
  rev : Int
  iff : ByteArray
  ifrev : Int
def Ask.cells (o : Ask) : Array Value := #[.int .i64 o.kind, .string o.key, .string o.val, .int .i64 o.rev, .string o.iff, .int .i64 o.ifrev]
def Ask.v (o : Ask) : Value := .agg o.cells
def Ask.zero : Ask := ⟨0, ⟨#[]⟩, ⟨#[]⟩, 0, ⟨#[]⟩, 0⟩
def cutA (o : Ask) : Ask := { o with key := cutS o.key 140, val := cutS o.val 100 }
theorem cells6 {w : World} {g : Nat} {a b c d e f : Value} {t : TypeId} (h : w.heap[g]? = some (.cells #[a, b, c, d, e, f] t)) :
    w.cell? ⟨g, 0, none⟩ = some a ∧ w.cell? ⟨g, 1, none⟩ = some b ∧ w.cell? ⟨g, 2, none⟩ = some c ∧ w.cell? ⟨g, 3, none⟩ = some d ∧ w.cell? ⟨g, 4, none⟩ = some e ∧ w.cell? ⟨g, 5, none⟩ = some f := by
  refine ⟨by simp [World.cell?, h], by simp [World.cell?, h], by simp [World.cell?, h], by simp [World.cell?, h], by simp [World.cell?, h], by simp [World.cell?, h]⟩
theorem frozen6 {w : World} {g : Nat} {a b c d e f : Value} {t : TypeId} (h : w.heap[g]? = some (.cells #[a, b, c, d, e, f] t)) :
    w.frozen? ⟨g, 0, none⟩ = false ∧ w.frozen? ⟨g, 1, none⟩ = false ∧ w.frozen? ⟨g, 2, none⟩ = false ∧ w.frozen? ⟨g, 3, none⟩ = false ∧ w.frozen? ⟨g, 4, none⟩ = false ∧ w.frozen? ⟨g, 5, none⟩ = false := by
  refine ⟨by simp [World.frozen?, h], by simp [World.frozen?, h], by simp [World.frozen?, h], by simp [World.frozen?, h], by simp [World.frozen?, h], by simp [World.frozen?, h]⟩
theorem put6 {w : World} {g : Nat} {T : TypeId} {a b c d e f : Value} (h : w.heap[g]? = some (.cells #[a, b, c, d, e, f] T)) (a' b' c' d' e' f' : Value) :
    ((((((w.setCell ⟨g, 0, none⟩ a').setCell ⟨g, 1, none⟩ b').setCell ⟨g, 2, none⟩ c').setCell ⟨g, 3, none⟩ d').setCell ⟨g, 4, none⟩ e').setCell ⟨g, 5, none⟩ f').heap[g]? = some (.cells #[a', b', c', d', e', f'] T) ∧ w.grownBy ((((((w.setCell ⟨g, 0, none⟩ a').setCell ⟨g, 1, none⟩ b').setCell ⟨g, 2, none⟩ c').setCell ⟨g, 3, none⟩ d').setCell ⟨g, 4, none⟩ e').setCell ⟨g, 5, none⟩ f') (some g) :=
  ⟨heap_setCell_at (heap_setCell_at (heap_setCell_at (heap_setCell_at (heap_setCell_at (heap_setCell_at h 0 a') 1 b') 2 c') 3 d') 4 e') 5 f',
    only_trans (only_trans (only_trans (only_trans (only_trans (only_setCell w g 0 a') (only_setCell _ g 1 b')) (only_setCell _ g 2 c')) (only_setCell _ g 3 d')) (only_setCell _ g 4 e')) (only_setCell _ g 5 f')⟩
theorem three_new (w : World) (x y z : Obj) : (((w.alloc x).alloc y).alloc z).heap[w.heap.size]? = some x ∧ (((w.alloc x).alloc y).alloc z).heap[w.heap.size + 1]? = some y ∧ (((w.alloc x).alloc y).alloc z).heap[w.heap.size + 1 + 1]? = some z ∧ Below w.heap.size w (((w.alloc x).alloc y).alloc z) := by
  have h1 := heap_alloc_new w x
  have h2 := heap_alloc_new (w.alloc x) y
  have h3 := heap_alloc_new ((w.alloc x).alloc y) z
  have e1 : (w.alloc x).heap.size = w.heap.size + 1 := by simp
  have e2 : ((w.alloc x).alloc y).heap.size = w.heap.size + 1 + 1 := by simp
  rw [e1] at h2
  rw [e2] at h3
  have b1 : ∀ (w : World) (o : Obj), Below w.heap.size w (w.alloc o) := fun w o => (Below.refl _ _).alloc (Nat.le_refl _) o
  exact ⟨at_below (at_below h1 (b1 _ _)) (b1 _ _), at_below h2 (b1 _ _), h3, chain (chain (b1 _ _) (b1 _ _)) (b1 _ _)⟩
set_option maxRecDepth 100000 in
set_option maxHeartbeats 4000000 in
theorem ours9_any (o : Ask) (w : World) : Calls Tryz.prog 16 #[o.v] w fun x w' => x = .returned (.tuple #[(cutA o).v, (cutA o).v]) ∧ Below w.heap.size w w' := by
  obtain ⟨ki, k, v, r, i, j⟩ := o
  unfold cutA Ask.v Ask.cells cutS
  simp only
  by_cases h1 : 140 < k.size
  · rw [if_pos h1]
    by_cases h2 : 100 < v.size
    · rw [if_pos h2]
      go_enter Tryz.func16, Tryz.ntmps16
      go_wp2_with fail
      obtain ⟨hA, hB, hC, hb⟩ := three_new w (.cells #[.int .i64 ki, .string (k.extract 0 140), .string (v.extract 0 100), .int .i64 r, .string i, .int .i64 j] 50) (.cells #[.int .i64 0, .string ⟨#[]⟩, .string ⟨#[]⟩, .int .i64 0, .string ⟨#[]⟩, .int .i64 0] 49) (.cells #[.int .i64 0, .string ⟨#[]⟩, .string ⟨#[]⟩, .int .i64 0, .string ⟨#[]⟩, .int .i64 0] 50)
      generalize World.alloc (World.alloc (World.alloc _ _) _) _ = w1 at *
      have k0 : ∀ w' : World, w'.heap[w.heap.size]? = some (.cells #[.int .i64 ki, .string (k.extract 0 140), .string (v.extract 0 100), .int .i64 r, .string i, .int .i64 j] 50) → _ := fun w' h => (cells6 h).1
      have k1 : ∀ w' : World, w'.heap[w.heap.size]? = some (.cells #[.int .i64 ki, .string (k.extract 0 140), .string (v.extract 0 100), .int .i64 r, .string i, .int .i64 j] 50) → _ := fun w' h => (cells6 h).2.1
      have k2 : ∀ w' : World, w'.heap[w.heap.size]? = some (.cells #[.int .i64 ki, .string (k.extract 0 140), .string (v.extract 0 100), .int .i64 r, .string i, .int .i64 j] 50) → _ := fun w' h => (cells6 h).2.2.1
      have k3 : ∀ w' : World, w'.heap[w.heap.size]? = some (.cells #[.int .i64 ki, .string (k.extract 0 140), .string (v.extract 0 100), .int .i64 r, .string i, .int .i64 j] 50) → _ := fun w' h => (cells6 h).2.2.2.1
      have k4 : ∀ w' : World, w'.heap[w.heap.size]? = some (.cells #[.int .i64 ki, .string (k.extract 0 140), .string (v.extract 0 100), .int .i64 r, .string i, .int .i64 j] 50) → _ := fun w' h => (cells6 h).2.2.2.2.1
      have k5 : ∀ w' : World, w'.heap[w.heap.size]? = some (.cells #[.int .i64 ki, .string (k.extract 0 140), .string (v.extract 0 100), .int .i64 r, .string i, .int .i64 j] 50) → _ := fun w' h => (cells6 h).2.2.2.2.2
      go_wp2_with fail
      refine region_begin (fun w' => w'.heap[w.heap.size]? = some (.cells #[.int .i64 ki, .string (k.extract 0 140), .string (v.extract 0 100), .int .i64 r, .string i, .int .i64 j] 50)) (by kernel_rfl) (hA) (fun hHeld => ?_)
      have hb := Below.drew hb
      have hB := (show w1.drew.heap[w.heap.size + 1]? = _ from hB)
      have hC := (show w1.drew.heap[w.heap.size + 1 + 1]? = _ from hC)
      generalize w1.drew = w2 at *
      clear hA
      refine tag [0,1,2,3,4,5,6,7,8,9,10,11,12,13] ?_
      iterate 14 (
        refine sH (v := ?_) rfl (by kernel_rfl) (fun _ _ _ h => h) (Or.inl ⟨by kernel_rfl, ?_⟩) (by assumption) ?_
        rotate_left
        · (intro wS hwS; (try dsimp only at hwS); go_simp; try (first | (with_reducible rfl) | rw [if_pos (by omega)] | rw [if_neg (by omega)]))
        try simp only [PT])
      refine tagN ?_
      clear k0 k1 k2 k3 k4 k5
      obtain ⟨f0, f1, f2, f3, f4, f5⟩ := frozen6 hB
      obtain ⟨c0, c1, c2, c3, c4, c5⟩ := cells6 hB
      refine region_one 14 (by kernel_rfl) rfl (fun K hK => ?_)
      go_simp
      obtain ⟨hB3, hG3⟩ := put6 hB (.int .i64 ki) (.string (k.extract 0 140)) (.string (v.extract 0 100)) (.int .i64 r) (.string i) (.int .i64 j)
      have hC3 := only_at hG3 hC (by omega)
      have hA3 := only_at hG3 hHeld (by omega)
      have hb3 := chainG hb hG3 (by omega)
      generalize World.setCell _ ⟨w.heap.size + 1, 5, none⟩ (Value.int .i64 j) = w3 at *
      clear f0 f1 f2 f3 f4 f5 c0 c1 c2 c3 c4 c5 hG3 hHeld hb hB hC
      refine hK.out _ _ (fun w' => w'.heap[w.heap.size]? = some (.cells #[.int .i64 ki, .string (k.extract 0 140), .string (v.extract 0 100), .int .i64 r, .string i, .int .i64 j] 50)) (hA3) (fun _ h => h) (fun hHeld => ?_)
      clear hK K
      try simp only [PT]
      obtain ⟨f0, f1, f2, f3, f4, f5⟩ := frozen6 hC3
      obtain ⟨c0, c1, c2, c3, c4, c5⟩ := cells6 hC3
      refine region_one 15 (by kernel_rfl) rfl (fun K hK => ?_)
      go_simp
      obtain ⟨hC4, hG4⟩ := put6 hC3 (.int .i64 ki) (.string (k.extract 0 140)) (.string (v.extract 0 100)) (.int .i64 r) (.string i) (.int .i64 j)
      have hB4 := only_at hG4 hB3 (by omega)
      have hA4 := only_at hG4 hHeld (by omega)
      have hb4 := chainG hb3 hG4 (by omega)
      generalize World.setCell _ ⟨w.heap.size + 1 + 1, 5, none⟩ (Value.int .i64 j) = w4 at *
      clear f0 f1 f2 f3 f4 f5 c0 c1 c2 c3 c4 c5 hG4 hHeld hb3 hB3 hC3 hA3
      refine hK.out _ _ (fun w' => w'.heap[w.heap.size]? = some (.cells #[.int .i64 ki, .string (k.extract 0 140), .string (v.extract 0 100), .int .i64 r, .string i, .int .i64 j] 50)) (hA4) (fun _ h => h) (fun hHeld => ?_)
      clear hK K
      try simp only [PT]
      refine wpAnyH_done (by kernel_rfl) ?_ _
      go_wp2_with fail
      obtain ⟨f0, f1, f2, f3, f4, f5⟩ := cells6 hB4
      obtain ⟨c0, c1, c2, c3, c4, c5⟩ := cells6 hC4
      exact bodyPost_ret (v := .tuple #[.agg #[.int .i64 ki, .string (k.extract 0 140), .string (v.extract 0 100), .int .i64 r, .string i, .int .i64 j], .agg #[.int .i64 ki, .string (k.extract 0 140), .string (v.extract 0 100), .int .i64 r, .string i, .int .i64 j]]) (by simp [results, Tryz.results16, go_sem, f0, f1, f2, f3, f4, f5, c0, c1, c2, c3, c4, c5]) rfl ⟨rfl, hb4⟩
    · rw [if_neg h2]
      go_enter Tryz.func16, Tryz.ntmps16
      go_wp2_with fail
      obtain ⟨hA, hB, hC, hb⟩ := three_new w (.cells #[.int .i64 ki, .string (k.extract 0 140), .string v, .int .i64 r, .string i, .int .i64 j] 50) (.cells #[.int .i64 0, .string ⟨#[]⟩, .string ⟨#[]⟩, .int .i64 0, .string ⟨#[]⟩, .int .i64 0] 49) (.cells #[.int .i64 0, .string ⟨#[]⟩, .string ⟨#[]⟩, .int .i64 0, .string ⟨#[]⟩, .int .i64 0] 50)
      generalize World.alloc (World.alloc (World.alloc _ _) _) _ = w1 at *
      have k0 : ∀ w' : World, w'.heap[w.heap.size]? = some (.cells #[.int .i64 ki, .string (k.extract 0 140), .string v, .int .i64 r, .string i, .int .i64 j] 50) → _ := fun w' h => (cells6 h).1
      have k1 : ∀ w' : World, w'.heap[w.heap.size]? = some (.cells #[.int .i64 ki, .string (k.extract 0 140), .string v, .int .i64 r, .string i, .int .i64 j] 50) → _ := fun w' h => (cells6 h).2.1
      have k2 : ∀ w' : World, w'.heap[w.heap.size]? = some (.cells #[.int .i64 ki, .string (k.extract 0 140), .string v, .int .i64 r, .string i, .int .i64 j] 50) → _ := fun w' h => (cells6 h).2.2.1
      have k3 : ∀ w' : World, w'.heap[w.heap.size]? = some (.cells #[.int .i64 ki, .string (k.extract 0 140), .string v, .int .i64 r, .string i, .int .i64 j] 50) → _ := fun w' h => (cells6 h).2.2.2.1
      have k4 : ∀ w' : World, w'.heap[w.heap.size]? = some (.cells #[.int .i64 ki, .string (k.extract 0 140), .string v, .int .i64 r, .string i, .int .i64 j] 50) → _ := fun w' h => (cells6 h).2.2.2.2.1
      have k5 : ∀ w' : World, w'.heap[w.heap.size]? = some (.cells #[.int .i64 ki, .string (k.extract 0 140), .string v, .int .i64 r, .string i, .int .i64 j] 50) → _ := fun w' h => (cells6 h).2.2.2.2.2
      go_wp2_with fail
      refine region_begin (fun w' => w'.heap[w.heap.size]? = some (.cells #[.int .i64 ki, .string (k.extract 0 140), .string v, .int .i64 r, .string i, .int .i64 j] 50)) (by kernel_rfl) (hA) (fun hHeld => ?_)
      have hb := Below.drew hb
      have hB := (show w1.drew.heap[w.heap.size + 1]? = _ from hB)
      have hC := (show w1.drew.heap[w.heap.size + 1 + 1]? = _ from hC)
      generalize w1.drew = w2 at *
      clear hA
      refine tag [0,1,2,3,4,5,6,7,8,9,10,11,12,13] ?_
      iterate 14 (
        refine sH (v := ?_) rfl (by kernel_rfl) (fun _ _ _ h => h) (Or.inl ⟨by kernel_rfl, ?_⟩) (by assumption) ?_
        rotate_left
        · (intro wS hwS; (try dsimp only at hwS); go_simp; try (first | (with_reducible rfl) | rw [if_pos (by omega)] | rw [if_neg (by omega)]))
        try simp only [PT])
      refine tagN ?_
      clear k0 k1 k2 k3 k4 k5
      obtain ⟨f0, f1, f2, f3, f4, f5⟩ := frozen6 hB
      obtain ⟨c0, c1, c2, c3, c4, c5⟩ := cells6 hB
      refine region_one 14 (by kernel_rfl) rfl (fun K hK => ?_)
      go_simp
      obtain ⟨hB3, hG3⟩ := put6 hB (.int .i64 ki) (.string (k.extract 0 140)) (.string v) (.int .i64 r) (.string i) (.int .i64 j)
      have hC3 := only_at hG3 hC (by omega)
      have hA3 := only_at hG3 hHeld (by omega)
      have hb3 := chainG hb hG3 (by omega)
      generalize World.setCell _ ⟨w.heap.size + 1, 5, none⟩ (Value.int .i64 j) = w3 at *
      clear f0 f1 f2 f3 f4 f5 c0 c1 c2 c3 c4 c5 hG3 hHeld hb hB hC
      refine hK.out _ _ (fun w' => w'.heap[w.heap.size]? = some (.cells #[.int .i64 ki, .string (k.extract 0 140), .string v, .int .i64 r, .string i, .int .i64 j] 50)) (hA3) (fun _ h => h) (fun hHeld => ?_)
      clear hK K
      try simp only [PT]
      obtain ⟨f0, f1, f2, f3, f4, f5⟩ := frozen6 hC3
      obtain ⟨c0, c1, c2, c3, c4, c5⟩ := cells6 hC3
      refine region_one 15 (by kernel_rfl) rfl (fun K hK => ?_)
      go_simp
      obtain ⟨hC4, hG4⟩ := put6 hC3 (.int .i64 ki) (.string (k.extract 0 140)) (.string v) (.int .i64 r) (.string i) (.int .i64 j)
      have hB4 := only_at hG4 hB3 (by omega)
      have hA4 := only_at hG4 hHeld (by omega)
      have hb4 := chainG hb3 hG4 (by omega)
      generalize World.setCell _ ⟨w.heap.size + 1 + 1, 5, none⟩ (Value.int .i64 j) = w4 at *
      clear f0 f1 f2 f3 f4 f5 c0 c1 c2 c3 c4 c5 hG4 hHeld hb3 hB3 hC3 hA3
      refine hK.out _ _ (fun w' => w'.heap[w.heap.size]? = some (.cells #[.int .i64 ki, .string (k.extract 0 140), .string v, .int .i64 r, .string i, .int .i64 j] 50)) (hA4) (fun _ h => h) (fun hHeld => ?_)
      clear hK K
      try simp only [PT]
      refine wpAnyH_done (by kernel_rfl) ?_ _
      go_wp2_with fail
      obtain ⟨f0, f1, f2, f3, f4, f5⟩ := cells6 hB4
      obtain ⟨c0, c1, c2, c3, c4, c5⟩ := cells6 hC4
      exact bodyPost_ret (v := .tuple #[.agg #[.int .i64 ki, .string (k.extract 0 140), .string v, .int .i64 r, .string i, .int .i64 j], .agg #[.int .i64 ki, .string (k.extract 0 140), .string v, .int .i64 r, .string i, .int .i64 j]]) (by simp [results, Tryz.results16, go_sem, f0, f1, f2, f3, f4, f5, c0, c1, c2, c3, c4, c5]) rfl ⟨rfl, hb4⟩
  · rw [if_neg h1]
    by_cases h2 : 100 < v.size
    · rw [if_pos h2]
      go_enter Tryz.func16, Tryz.ntmps16
      go_wp2_with fail
      obtain ⟨hA, hB, hC, hb⟩ := three_new w (.cells #[.int .i64 ki, .string k, .string (v.extract 0 100), .int .i64 r, .string i, .int .i64 j] 50) (.cells #[.int .i64 0, .string ⟨#[]⟩, .string ⟨#[]⟩, .int .i64 0, .string ⟨#[]⟩, .int .i64 0] 49) (.cells #[.int .i64 0, .string ⟨#[]⟩, .string ⟨#[]⟩, .int .i64 0, .string ⟨#[]⟩, .int .i64 0] 50)
      generalize World.alloc (World.alloc (World.alloc _ _) _) _ = w1 at *
      have k0 : ∀ w' : World, w'.heap[w.heap.size]? = some (.cells #[.int .i64 ki, .string k, .string (v.extract 0 100), .int .i64 r, .string i, .int .i64 j] 50) → _ := fun w' h => (cells6 h).1
      have k1 : ∀ w' : World, w'.heap[w.heap.size]? = some (.cells #[.int .i64 ki, .string k, .string (v.extract 0 100), .int .i64 r, .string i, .int .i64 j] 50) → _ := fun w' h => (cells6 h).2.1
      have k2 : ∀ w' : World, w'.heap[w.heap.size]? = some (.cells #[.int .i64 ki, .string k, .string (v.extract 0 100), .int .i64 r, .string i, .int .i64 j] 50) → _ := fun w' h => (cells6 h).2.2.1
      have k3 : ∀ w' : World, w'.heap[w.heap.size]? = some (.cells #[.int .i64 ki, .string k, .string (v.extract 0 100), .int .i64 r, .string i, .int .i64 j] 50) → _ := fun w' h => (cells6 h).2.2.2.1
      have k4 : ∀ w' : World, w'.heap[w.heap.size]? = some (.cells #[.int .i64 ki, .string k, .string (v.extract 0 100), .int .i64 r, .string i, .int .i64 j] 50) → _ := fun w' h => (cells6 h).2.2.2.2.1
      have k5 : ∀ w' : World, w'.heap[w.heap.size]? = some (.cells #[.int .i64 ki, .string k, .string (v.extract 0 100), .int .i64 r, .string i, .int .i64 j] 50) → _ := fun w' h => (cells6 h).2.2.2.2.2
      go_wp2_with fail
      refine region_begin (fun w' => w'.heap[w.heap.size]? = some (.cells #[.int .i64 ki, .string k, .string (v.extract 0 100), .int .i64 r, .string i, .int .i64 j] 50)) (by kernel_rfl) (hA) (fun hHeld => ?_)
      have hb := Below.drew hb
      have hB := (show w1.drew.heap[w.heap.size + 1]? = _ from hB)
      have hC := (show w1.drew.heap[w.heap.size + 1 + 1]? = _ from hC)
      generalize w1.drew = w2 at *
      clear hA
      refine tag [0,1,2,3,4,5,6,7,8,9,10,11,12,13] ?_
      iterate 14 (
        refine sH (v := ?_) rfl (by kernel_rfl) (fun _ _ _ h => h) (Or.inl ⟨by kernel_rfl, ?_⟩) (by assumption) ?_
        rotate_left
        · (intro wS hwS; (try dsimp only at hwS); go_simp; try (first | (with_reducible rfl) | rw [if_pos (by omega)] | rw [if_neg (by omega)]))
        try simp only [PT])
      refine tagN ?_
      clear k0 k1 k2 k3 k4 k5
      obtain ⟨f0, f1, f2, f3, f4, f5⟩ := frozen6 hB
      obtain ⟨c0, c1, c2, c3, c4, c5⟩ := cells6 hB
      refine region_one 14 (by kernel_rfl) rfl (fun K hK => ?_)
      go_simp
      obtain ⟨hB3, hG3⟩ := put6 hB (.int .i64 ki) (.string k) (.string (v.extract 0 100)) (.int .i64 r) (.string i) (.int .i64 j)
      have hC3 := only_at hG3 hC (by omega)
      have hA3 := only_at hG3 hHeld (by omega)
      have hb3 := chainG hb hG3 (by omega)
      generalize World.setCell _ ⟨w.heap.size + 1, 5, none⟩ (Value.int .i64 j) = w3 at *
      clear f0 f1 f2 f3 f4 f5 c0 c1 c2 c3 c4 c5 hG3 hHeld hb hB hC
      refine hK.out _ _ (fun w' => w'.heap[w.heap.size]? = some (.cells #[.int .i64 ki, .string k, .string (v.extract 0 100), .int .i64 r, .string i, .int .i64 j] 50)) (hA3) (fun _ h => h) (fun hHeld => ?_)
      clear hK K
      try simp only [PT]
      obtain ⟨f0, f1, f2, f3, f4, f5⟩ := frozen6 hC3
      obtain ⟨c0, c1, c2, c3, c4, c5⟩ := cells6 hC3
      refine region_one 15 (by kernel_rfl) rfl (fun K hK => ?_)
      go_simp
      obtain ⟨hC4, hG4⟩ := put6 hC3 (.int .i64 ki) (.string k) (.string (v.extract 0 100)) (.int .i64 r) (.string i) (.int .i64 j)
      have hB4 := only_at hG4 hB3 (by omega)
      have hA4 := only_at hG4 hHeld (by omega)
      have hb4 := chainG hb3 hG4 (by omega)
      generalize World.setCell _ ⟨w.heap.size + 1 + 1, 5, none⟩ (Value.int .i64 j) = w4 at *
      clear f0 f1 f2 f3 f4 f5 c0 c1 c2 c3 c4 c5 hG4 hHeld hb3 hB3 hC3 hA3
      refine hK.out _ _ (fun w' => w'.heap[w.heap.size]? = some (.cells #[.int .i64 ki, .string k, .string (v.extract 0 100), .int .i64 r, .string i, .int .i64 j] 50)) (hA4) (fun _ h => h) (fun hHeld => ?_)
      clear hK K
      try simp only [PT]
      refine wpAnyH_done (by kernel_rfl) ?_ _
      go_wp2_with fail
      obtain ⟨f0, f1, f2, f3, f4, f5⟩ := cells6 hB4
      obtain ⟨c0, c1, c2, c3, c4, c5⟩ := cells6 hC4
      exact bodyPost_ret (v := .tuple #[.agg #[.int .i64 ki, .string k, .string (v.extract 0 100), .int .i64 r, .string i, .int .i64 j], .agg #[.int .i64 ki, .string k, .string (v.extract 0 100), .int .i64 r, .string i, .int .i64 j]]) (by simp [results, Tryz.results16, go_sem, f0, f1, f2, f3, f4, f5, c0, c1, c2, c3, c4, c5]) rfl ⟨rfl, hb4⟩
    · rw [if_neg h2]
      go_enter Tryz.func16, Tryz.ntmps16
      go_wp2_with fail
      obtain ⟨hA, hB, hC, hb⟩ := three_new w (.cells #[.int .i64 ki, .string k, .string v, .int .i64 r, .string i, .int .i64 j] 50) (.cells #[.int .i64 0, .string ⟨#[]⟩, .string ⟨#[]⟩, .int .i64 0, .string ⟨#[]⟩, .int .i64 0] 49) (.cells #[.int .i64 0, .string ⟨#[]⟩, .string ⟨#[]⟩, .int .i64 0, .string ⟨#[]⟩, .int .i64 0] 50)
      generalize World.alloc (World.alloc (World.alloc _ _) _) _ = w1 at *
      have k0 : ∀ w' : World, w'.heap[w.heap.size]? = some (.cells #[.int .i64 ki, .string k, .string v, .int .i64 r, .string i, .int .i64 j] 50) → _ := fun w' h => (cells6 h).1
      have k1 : ∀ w' : World, w'.heap[w.heap.size]? = some (.cells #[.int .i64 ki, .string k, .string v, .int .i64 r, .string i, .int .i64 j] 50) → _ := fun w' h => (cells6 h).2.1
      have k2 : ∀ w' : World, w'.heap[w.heap.size]? = some (.cells #[.int .i64 ki, .string k, .string v, .int .i64 r, .string i, .int .i64 j] 50) → _ := fun w' h => (cells6 h).2.2.1
      have k3 : ∀ w' : World, w'.heap[w.heap.size]? = some (.cells #[.int .i64 ki, .string k, .string v, .int .i64 r, .string i, .int .i64 j] 50) → _ := fun w' h => (cells6 h).2.2.2.1
      have k4 : ∀ w' : World, w'.heap[w.heap.size]? = some (.cells #[.int .i64 ki, .string k, .string v, .int .i64 r, .string i, .int .i64 j] 50) → _ := fun w' h => (cells6 h).2.2.2.2.1
      have k5 : ∀ w' : World, w'.heap[w.heap.size]? = some (.cells #[.int .i64 ki, .string k, .string v, .int .i64 r, .string i, .int .i64 j] 50) → _ := fun w' h => (cells6 h).2.2.2.2.2
      go_wp2_with fail
      refine region_begin (fun w' => w'.heap[w.heap.size]? = some (.cells #[.int .i64 ki, .string k, .string v, .int .i64 r, .string i, .int .i64 j] 50)) (by kernel_rfl) (hA) (fun hHeld => ?_)
      have hb := Below.drew hb
      have hB := (show w1.drew.heap[w.heap.size + 1]? = _ from hB)
      have hC := (show w1.drew.heap[w.heap.size + 1 + 1]? = _ from hC)
      generalize w1.drew = w2 at *
      clear hA
      refine tag [0,1,2,3,4,5,6,7,8,9,10,11,12,13] ?_
      iterate 14 (
        refine sH (v := ?_) rfl (by kernel_rfl) (fun _ _ _ h => h) (Or.inl ⟨by kernel_rfl, ?_⟩) (by assumption) ?_
        rotate_left
        · (intro wS hwS; (try dsimp only at hwS); go_simp; try (first | (with_reducible rfl) | rw [if_pos (by omega)] | rw [if_neg (by omega)]))
        try simp only [PT])
      refine tagN ?_
      clear k0 k1 k2 k3 k4 k5
      obtain ⟨f0, f1, f2, f3, f4, f5⟩ := frozen6 hB
      obtain ⟨c0, c1, c2, c3, c4, c5⟩ := cells6 hB
      refine region_one 14 (by kernel_rfl) rfl (fun K hK => ?_)
      go_simp
      obtain ⟨hB3, hG3⟩ := put6 hB (.int .i64 ki) (.string k) (.string v) (.int .i64 r) (.string i) (.int .i64 j)
      have hC3 := only_at hG3 hC (by omega)
      have hA3 := only_at hG3 hHeld (by omega)
      have hb3 := chainG hb hG3 (by omega)
      generalize World.setCell _ ⟨w.heap.size + 1, 5, none⟩ (Value.int .i64 j) = w3 at *
      clear f0 f1 f2 f3 f4 f5 c0 c1 c2 c3 c4 c5 hG3 hHeld hb hB hC
      refine hK.out _ _ (fun w' => w'.heap[w.heap.size]? = some (.cells #[.int .i64 ki, .string k, .string v, .int .i64 r, .string i, .int .i64 j] 50)) (hA3) (fun _ h => h) (fun hHeld => ?_)
      clear hK K
      try simp only [PT]
      obtain ⟨f0, f1, f2, f3, f4, f5⟩ := frozen6 hC3
      obtain ⟨c0, c1, c2, c3, c4, c5⟩ := cells6 hC3
      refine region_one 15 (by kernel_rfl) rfl (fun K hK => ?_)
      go_simp
      obtain ⟨hC4, hG4⟩ := put6 hC3 (.int .i64 ki) (.string k) (.string v) (.int .i64 r) (.string i) (.int .i64 j)
      have hB4 := only_at hG4 hB3 (by omega)
      have hA4 := only_at hG4 hHeld (by omega)
      have hb4 := chainG hb3 hG4 (by omega)
      generalize World.setCell _ ⟨w.heap.size + 1 + 1, 5, none⟩ (Value.int .i64 j) = w4 at *
      clear f0 f1 f2 f3 f4 f5 c0 c1 c2 c3 c4 c5 hG4 hHeld hb3 hB3 hC3 hA3
      refine hK.out _ _ (fun w' => w'.heap[w.heap.size]? = some (.cells #[.int .i64 ki, .string k, .string v, .int .i64 r, .string i, .int .i64 j] 50)) (hA4) (fun _ h => h) (fun hHeld => ?_)
      clear hK K
      try simp only [PT]
      refine wpAnyH_done (by kernel_rfl) ?_ _
      go_wp2_with fail
      obtain ⟨f0, f1, f2, f3, f4, f5⟩ := cells6 hB4
      obtain ⟨c0, c1, c2, c3, c4, c5⟩ := cells6 hC4
      exact bodyPost_ret (v := .tuple #[.agg #[.int .i64 ki, .string k, .string v, .int .i64 r, .string i, .int .i64 j], .agg #[.int .i64 ki, .string k, .string v, .int .i64 r, .string i, .int .i64 j]]) (by simp [results, Tryz.results16, go_sem, f0, f1, f2, f3, f4, f5, c0, c1, c2, c3, c4, c5]) rfl ⟨rfl, hb4⟩
end Go.Proofs.YtnkjekkdndjfaaaGreat
