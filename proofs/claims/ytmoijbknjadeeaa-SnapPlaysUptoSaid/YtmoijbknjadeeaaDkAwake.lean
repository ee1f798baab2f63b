
/- Chapter 6's example; the law DiskNil's walk. -/
import Derived.Test.YtmoijbknjadeeaaDkSync
import Derived.Test.YtmoijbknjadeeaaDkCrash
import Derived.Lib.SlBytesConst
namespace Go.Proofs.Ytmoijbknjadeeaa
set_option linter.unusedVariables false
set_option linter.unusedSimpArgs false
open Go.RowKit
theorem own_lit6 {w : World} {g s n : Nat} {t : TypeId} {cs : List Value} (h : At w g t cs) (hl : cs.length = n * s) (hn : n ≤ maxLen) (base : Nat) (hb : base ≤ g) : w.ownsRow base t s (.slice (some ⟨g, 0, none⟩) n n) n cs := by
  refine ⟨hl, .inr ⟨g, n, cs.toArray, rfl, hb, h, Nat.le_refl _, hn, by simp [hl], by simp [← hl]⟩⟩
/-- a row that is read stays, where its block is left alone -/
theorem Rd.keepM {w w' : World} {M : Nat → Obj → Prop} {B s n c gb off : Nat} {xs : List Value} (h : Rd w B s (some ⟨gb, off, none⟩) n c xs) (hm : Mod M w w') (hM : ∀ o, ¬ M gb o) (hB : B ≤ w.heap.size) : Rd w' w'.heap.size s (some ⟨gb, off, none⟩) n c xs := by
  refine ⟨h.len, h.le, h.max, fun hc => ?_⟩
  obtain ⟨g, off', e, hg, hcell⟩ := h.cells hc
  injection e with e
  injection e with e1 e2
  subst e1 e2
  refine ⟨gb, off, rfl, Nat.lt_of_lt_of_le (Nat.lt_of_lt_of_le hg hB) hm.size, fun j u hu => ?_⟩
  have h1 := hcell j u hu
  have hlt := World.block_lt_of_cell? w _ h1
  have h2 := hm.block gb _ (Array.getElem?_eq_getElem hlt) (hM _)
  rw [World.cell?_of_block (h2.trans (Array.getElem?_eq_getElem hlt).symm)]
  exact h1
/-- a marked row of bytes, just made -/
theorem rd_mark (w : World) (t : TypeId) (cs : List Value) (fr : Nat × Nat) {s n : Nat} (hl : cs.length = n * s) (hn : n ≤ maxLen) : Rd (w.alloc (.cells cs.toArray t fr)) (w.heap.size + 1) s (some ⟨w.heap.size, 0, none⟩) n n cs := by
  refine ⟨hl, Nat.le_refl _, hn, fun _ => ⟨_, 0, rfl, by omega, fun j u hu => ?_⟩⟩
  rw [Nat.zero_add, World.cell?_alloc_mark]
  simpa using hu
theorem put_one {e c : Fi} (h : e.k = c.k) : applyF e false [c] = [e] := put_mid (p := []) (q := []) (x := c) (by unfold AscF; simp) h
theorem get_one (c : Fi) (k : ByteArray) (h : c.k = k) : getF [c] k = c := by subst h; exact getF_mem (by unfold AscF; simp) (by simp)
theorem find_one (c : Fi) (k : ByteArray) (h : c.k = k) : (findF [c] k).isSome = true := by unfold findF; simp [h]
abbrev exF : ByteArray := ⟨#[102]⟩
set_option maxRecDepth 100000 in
set_option maxHeartbeats 4000000 in
theorem awake6 (w : World) : Calls Try.prog 20 #[] w fun x w' => x = .returned (.bool true) ∧ Below w.heap.size w w' := by
  have hfs : exF.size ≤ maxLen := by show (1 : Nat) ≤ maxLen; simp only [maxLen]; omega
  go_enter Try.func20, Try.ntmps20
  go_upto_region 2 with (((with_reducible refine ((new_dk w)).mono ?_); rintro z w1 ⟨g, b, rfl, hd, hwb, hbg, hb⟩))
  have hci := Lib.run_convert_bytes_const (P := Try.prog) w1 27 5 #[.int .u8 97, .int .u8 98, .int .u8 99] 3 3 Try.underlying27 Try.underlying5
  have hb2 : Below w1.heap.size w1 (w1.alloc (.cells #[.int .u8 97, .int .u8 98, .int .u8 99] 5 (3, 4))) := (Below.refl _ _).alloc (Nat.le_refl _) _
  have hmk := rd_mark w1 5 [.int .u8 97, .int .u8 98, .int .u8 99] (3, 4) (s := 1) (n := 3) rfl (by simp [maxLen])
  have hg1 := hd.lt.1
  have hd := hd.step hb2
  replace hb := chain hb hb2
  have hrd : ∀ v, (w1.alloc (.cells #[.int .u8 97, .int .u8 98, .int .u8 99] 5 (3, 4))).grownBy v (some g) → RdB v v.heap.size (some ⟨w1.heap.size, 0, none⟩) 3 3 [97, 98, 99] := fun v hG => hmk.keepM (grown_mod hG) (fun o e => absurd (Option.some.inj e) (by omega)) (by simp)
  have HA1 := append_yes exF (by show 1 ≤ 1; omega) hfs _ 3 3 [97, 98, 99] _ hd hrd (by omega) (by omega) (by simp)
  unfold StoreR at HA1
  clear hb2 hd hrd hmk
  go_upto_region 3 with (((with_reducible refine (HA1).mono ?_); rintro z w3 ⟨rfl, hm3, P1, n1, c1, hd3⟩))
  replace hd3 : IsDk w3 g b 1 [⟨exF, [97, 98, 99], P1, n1, c1, 0⟩] false false 0 := hd3
  have hB3 := hb.trans (hm3.toBelow (fun i o hi e => by rcases e with e | e <;> omega) hb.size)
  have HSY := sync_go exF hfs w3 hd3 (find_one _ _ rfl) (by omega)
  clear HA1 hm3 hb
  go_upto_region 4 with (((with_reducible refine (HSY).mono ?_); rintro z w4 ⟨rfl, hm4, _, hy4⟩))
  obtain ⟨l4, ⟨P2, n2, c2, rfl⟩, hd4⟩ := hy4 rfl
  rw [get_one _ exF rfl] at hd4
  simp only at hd4
  rw [put_one (e := ⟨exF, [97, 98, 99], P2, n2, c2, _⟩) (c := ⟨exF, [97, 98, 99], P1, n1, c1, 0⟩) rfl] at hd4
  replace hd4 : IsDk w4 g b 2 [⟨exF, [97, 98, 99], P2, n2, c2, 3⟩] false false 0 := hd4
  have hB4 := hB3.trans (hm4.toBelow (fun i o hi e => by rcases e with e | e <;> omega) hB3.size)
  clear HSY hm4 hB3 hy4 hd3
  have hci := Lib.run_convert_bytes_const (P := Try.prog) w4 27 5 #[.int .u8 100, .int .u8 101] 2 2 Try.underlying27 Try.underlying5
  have hb2 : Below w4.heap.size w4 (w4.alloc (.cells #[.int .u8 100, .int .u8 101] 5 (2, 3))) := (Below.refl _ _).alloc (Nat.le_refl _) _
  have hmk := rd_mark w4 5 [.int .u8 100, .int .u8 101] (2, 3) (s := 1) (n := 2) rfl (by simp [maxLen])
  have hg4 := hd4.lt.1
  have hd5 := hd4.step hb2
  have hB5 := chain hB4 hb2
  have hrd : ∀ v, (w4.alloc (.cells #[.int .u8 100, .int .u8 101] 5 (2, 3))).grownBy v (some g) → RdB v v.heap.size (some ⟨w4.heap.size, 0, none⟩) 2 2 [100, 101] := fun v hG => hmk.keepM (grown_mod hG) (fun o e => absurd (Option.some.inj e) (by omega)) (by simp)
  have HA1 := append_yes exF (by show 1 ≤ 1; omega) hfs _ 2 2 [100, 101] _ hd5 hrd (by omega) (by omega) (by simp)
  unfold StoreR at HA1
  rw [get_one _ exF rfl] at HA1
  simp only at HA1
  clear hb2 hd4 hd5 hrd hmk hB4
  go_upto_region 5 with (((with_reducible refine (HA1).mono ?_); rintro z w6 ⟨rfl, hm6, P3, n3, c3, hd6⟩))
  rw [put_one (e := ⟨exF, [97, 98, 99] ++ [100, 101], P3, n3, c3, 3⟩) (c := ⟨exF, [97, 98, 99], P2, n2, c2, 3⟩) rfl] at hd6
  replace hd6 : IsDk w6 g b 3 [⟨exF, [97, 98, 99, 100, 101], P3, n3, c3, 3⟩] false false 0 := hd6
  have hB6 := hB5.trans (hm6.toBelow (fun i o hi e => by rcases e with e | e <;> omega) hB5.size)
  clear HA1 hm6 hB5
  obtain ⟨h2, hb2⟩ := one_at w6 96 [.int .u16 1]
  have hb6 := hd6.lt.2
  have hd7 := hd6.step hb2
  have hB7 := chain hB6 hb2
  have hkeep : ∀ v, Mod (fun i _ => i = b) (World.alloc w6 (.cells [Value.int .u16 1].toArray 96)) v → RdK v v.heap.size (some ⟨w6.heap.size, 0, none⟩) 1 1 [1] := fun v hm => Rd.of_own (own_lit6 (hm.at h2 (by omega)) rfl (by simp [maxLen]) 0 (Nat.zero_le _))
  have HCR := crash_any _ 1 1 [1] _ hd7 (by omega) (by simp) hkeep (by simp) (by intro x hx; simp at hx; subst hx; exact ⟨by simp, hfs⟩)
  rw [show crashF [1] 0 [⟨exF, [97, 98, 99, 100, 101], P3, n3, c3, 3⟩] = [⟨exF, [97, 98, 99, 100], none, 0, 0, 4⟩] from rfl] at HCR
  clear hb2 hd6 hd7 hkeep h2 hB6
  go_upto_region 6 with (((with_reducible refine (HCR).mono ?_); rintro z w8 ⟨rfl, hm8, l8, hl8, hd8⟩))
  have hB8 := hB7.trans (hm8.toBelow (fun i o hi e => by rcases e with e | e <;> omega) hB7.size)
  obtain ⟨y, rfl⟩ : ∃ y, l8 = [y] := by
    match l8, hl8 with
    | [y], _ => exact ⟨y, rfl⟩
    | [], h => simp at h
    | _ :: _ :: _, h => simp at h
  have hy : y.core = ⟨exF, [97, 98, 99, 100], none, 0, 0, 4⟩ := by simpa using hl8
  obtain ⟨yk, yb, yP, yn, yc, ys⟩ := y
  unfold Fi.core at hy
  injection hy with e1 e2 e3 e4 e5 e6
  subst e1 e2 e6
  clear HCR hl8 hm8 hB7 e3 e4 e5
  have HRD := dread_any exF hfs w8 hd8 (by intro x hx; simp at hx; subst hx; simp)
  have HSU := fun v (h : IsDk v g b (3 + 1) [⟨exF, [97, 98, 99, 100], yP, yn, yc, 4⟩] false false 0) => sure_any exF hfs v h
  have hf1 := find_one ⟨exF, [97, 98, 99, 100], yP, yn, yc, 4⟩ exF rfl
  have hg1' := get_one ⟨exF, [97, 98, 99, 100], yP, yn, yc, 4⟩ exF rfl
  unfold rdCode rdBytes at HRD
  rw [hf1, hg1'] at HRD
  simp only [if_true, Bool.false_eq_true, if_false, Bool.not_false, Bool.and_self] at HRD
  rw [hg1'] at HSU
  simp only at HSU
  clear hf1 hg1'
  have hcmp : ((⟨[97, 98, 99, 100].toArray⟩ : ByteArray).toList == (⟨#[97, 98, 99, 100]⟩ : ByteArray).toList) = true := by rw [ba_beq]; rfl
  go_upto_region 7 with (((with_reducible refine (HRD).mono ?_); rintro z w9 ⟨A9, n9, c9, rfl, hown9, hb9⟩))
  have hcv := conv_str hown9.rd
  have HSU := HSU w9 (show IsDk w9 g b (3 + 1) _ false false 0 from hd8.step hb9)
  have HB := Lib.hid (chain hB8 hb9)
  clear hd8 HRD hb9 hB8 hown9
  go_wp2_with (((with_reducible refine (HSU).mono ?_); rintro z v ⟨rfl, rfl⟩))
  go_ret
  exact ⟨rfl, HB.out⟩
set_option maxRecDepth 100000 in
set_option maxHeartbeats 4000000 in
theorem diskNil_walk (a b : ByteArray) (n : Int) (w : World) : Calls Try.prog 6 #[.string a, .string b, .int .i64 n] w fun x w' => x = .returned (.bool true) ∧ Below w.heap.size w w' := by
  go_enter Try.func6, Try.ntmps6
  go_wp2_with (first
    | (((with_reducible refine ((dread_nil a w)).mono ?_); rintro z v ⟨rfl, rfl⟩))
    | (((with_reducible refine ((arm_nil n w)).mono ?_); rintro z v ⟨rfl, rfl⟩))
    | (((with_reducible refine ((crash_nil none 0 0 w)).mono ?_); rintro z w2 ⟨rfl, hb2⟩))
    | (((with_reducible refine ((append_nil a none 0 0 w2)).mono ?_); rintro z v ⟨rfl, rfl⟩))
    | (((with_reducible refine ((sync_nil a w2)).mono ?_); rintro z v ⟨rfl, rfl⟩))
    | (((with_reducible refine ((rename_nil a b w2)).mono ?_); rintro z v ⟨rfl, rfl⟩))
    | (((with_reducible refine ((remove_nil a w2)).mono ?_); rintro z v ⟨rfl, rfl⟩))
    | (((with_reducible refine ((cut_nil a n w2)).mono ?_); rintro z v ⟨rfl, rfl⟩))
    | (((with_reducible refine ((names_nil w2)).mono ?_); rintro z v ⟨rfl, rfl⟩))
    | (((with_reducible refine ((sure_nil a w2)).mono ?_); rintro z v ⟨rfl, rfl⟩))
    | (((with_reducible refine ((lost_nil w2)).mono ?_); rintro z v ⟨rfl, rfl⟩))
    | (((with_reducible refine ((awake6 w2)).mono ?_); rintro z w3 ⟨rfl, hb3⟩)))
  go_ret
  exact ⟨rfl, chain hb2 hb3⟩
end Go.Proofs.Ytmoijbknjadeeaa
