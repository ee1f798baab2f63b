
/- Chapter 7: a log of records on a disk: the program's. -/
import Derived.Test.YtmoijbknjadeeaaPdOk
import Derived.Test.YtmoijbknjadeeaaFrameOwn
namespace Go.Proofs.Ytmoijbknjadeeaa
set_option linter.unusedVariables false
set_option linter.unusedSimpArgs false
open Go.RowKit
/-- bytes that are read stay, if no byte's block is turned -/
theorem RdB.mods {w w' : World} {M : Nat → Obj → Prop} {B n c : Nat} {A : Option Addr} {l : List UInt8} (h : RdB w B A n c l) (hB : B ≤ w.heap.size) (hm : Mod M w w')
    (hM : ∀ g o, w.heap[g]? = some o → M g o → ∀ (off : Nat) (b : Int), w.cell? ⟨g, off, none⟩ ≠ some (.int .u8 b)) : RdB w' w'.heap.size A n c l := by
  refine ⟨h.len, h.le, h.max, fun hc => ?_⟩
  obtain ⟨g, off, e, hg, hcell⟩ := h.cells hc
  refine ⟨g, off, e, Nat.lt_of_lt_of_le (Nat.lt_of_lt_of_le hg hB) hm.size, fun j u hu => ?_⟩
  have h1 := hcell j u hu
  obtain ⟨b, _, rfl⟩ := bys_get hu
  have hlt := World.block_lt_of_cell? w _ h1
  have ho := Array.getElem?_eq_getElem hlt
  have h2 := hm.block g _ ho (fun hq => hM g _ ho hq _ _ h1)
  rw [World.cell?_of_block (h2.trans ho.symm)]
  exact h1
theorem IsMf.no_cell {w : World} {b N : Nat} {l : List Fi} (h : IsMf w b N l) (off : Nat) : w.cell? ⟨b, off, none⟩ = none := by
  obtain ⟨D, ⟨es, clock, hb, r⟩, h2⟩ := h
  simp [World.cell?, hb]
theorem cell4 {w : World} {g : Nat} {t : TypeId} {a b c d : Value} (h : At w g t [a, b, c, d]) (off : Nat) (v : Value) (hv : v ≠ a ∧ v ≠ b ∧ v ≠ c ∧ v ≠ d) : w.cell? ⟨g, off, none⟩ ≠ some v := by
  rw [h.cell off]
  match off with
  | 0 => simpa using hv.1.symm
  | 1 => simpa using hv.2.1.symm
  | 2 => simpa using hv.2.2.1.symm
  | 3 => simpa using hv.2.2.2.symm
  | k + 4 => simp
theorem cell3 {w : World} {g : Nat} {t : TypeId} {a b c : Value} (h : At w g t [a, b, c]) (off : Nat) (v : Value) (hv : v ≠ a ∧ v ≠ b ∧ v ≠ c) : w.cell? ⟨g, off, none⟩ ≠ some v := by
  rw [h.cell off]
  match off with
  | 0 => simpa using hv.1.symm
  | 1 => simpa using hv.2.1.symm
  | 2 => simpa using hv.2.2.symm
  | k + 3 => simp
section
variable {w w' : World} {gd bd gr N B n c : Nat} {d : PD} {A : Option Addr} {l : List UInt8}
theorem IsD.rdb (h : IsD w gd bd N d) (hr : RdB w B A n c l) (hB : B ≤ w.heap.size) (hm : Mod (fun i _ => i = gd ∨ i = bd) w w') : RdB w' w'.heap.size A n c l := by
  obtain ⟨l0, h1, h2⟩ := h
  refine hr.mods hB hm fun g o ho hq off b => ?_
  rcases hq with rfl | rfl
  · exact cell4 h2.at_ off _ (by simp)
  · rw [h2.mp.no_cell off]; simp
theorem IsR.rdb (h : IsR w gr d) (hr : RdB w B A n c l) (hB : B ≤ w.heap.size) (hm : Mod (fun i _ => i = gr) w w') : RdB w' w'.heap.size A n c l := by
  obtain ⟨A', c', h1, h2⟩ := IsRf.ex h
  refine hr.mods hB hm fun g o ho hq off b => ?_
  subst hq
  exact cell3 h1 off _ (by simp)
/-- records that were told: the row is the call's own -/
def RecS (w : World) (base : Nat) (A : Option Addr) (n c : Nat) (ys : List Bsl) : Prop := w.ownsRow base 27 1 (.slice A n c) n (ys.map Bsl.val) ∧ ∀ y ∈ ys, RdB w w.heap.size y.A y.n y.c y.l
variable {base : Nat} {ys : List Bsl}
theorem RecS.of_own (h : OwnS w base A n c ys) (hb : base ≤ w.heap.size) : RecS w base A n c ys := ⟨h.1, fun y hy => (h.2 y hy).rd hb⟩
theorem RecS.rd (h : RecS w base A n c ys) : RdS w w.heap.size A n c ys := ⟨Rd.of_own h.1, h.2⟩
theorem RecS.step (h : RecS w base A n c ys) (hb : Below w.heap.size w w') : RecS w' base A n c ys := ⟨own_below h.1 hb, fun y hy => (h.2 y hy).step hb⟩
theorem RecS.dk (h : RecS w base A n c ys) (hd : IsD w gd bd N d) (hm : Mod (fun i _ => i = gd ∨ i = bd) w w') : RecS w' base A n c ys := ⟨own_mod h.1 hm (fun i o ho _ hit e => hd.free ho hit (by decide) e), fun y hy => hd.rdb (h.2 y hy) (Nat.le_refl _) hm⟩
theorem RecS.rf (h : RecS w base A n c ys) (hd : IsR w gr d) (hm : Mod (fun i _ => i = gr) w w') : RecS w' base A n c ys := by
  obtain ⟨A', c', h1, h2⟩ := IsRf.ex hd
  exact ⟨own_mod h.1 hm (fun i o ho _ hit e => isT_at h1 ho hit (by decide) e), fun y hy => hd.rdb (h.2 y hy) (Nat.le_refl _) hm⟩
theorem RecS.nil : RecS w base none 0 0 [] := ⟨World.ownsRow_nil _ _ _ _, by simp⟩
theorem RecS.lower {base' : Nat} (h : RecS w base A n c ys) (hb : base' ≤ base) : RecS w base' A n c ys := by
  obtain ⟨⟨h1, h2⟩, h3⟩ := h
  refine ⟨⟨h1, ?_⟩, h3⟩
  rcases h2 with h2 | ⟨g, cap, cur, e1, e2, e3⟩
  · exact .inl h2
  · exact .inr ⟨g, cap, cur, e1, Nat.le_trans hb e2, e3⟩
end
/-- the records, too, are the call's own -/
def RecO (w : World) (base : Nat) (A : Option Addr) (n c : Nat) (ys : List Bsl) : Prop := w.ownsRow base 27 1 (.slice A n c) n (ys.map Bsl.val) ∧ ∀ y ∈ ys, OwnB w base y.A y.n y.c y.l
theorem own_lower7 {w : World} {base base' s n : Nat} {e : TypeId} {v : Value} {xs : List Value} (h : w.ownsRow base e s v n xs) (hb : base' ≤ base) : w.ownsRow base' e s v n xs := by
  obtain ⟨h1, h2⟩ := h
  refine ⟨h1, ?_⟩
  rcases h2 with h2 | ⟨g, cap, cur, e1, e2, e3⟩
  · exact .inl h2
  · exact .inr ⟨g, cap, cur, e1, Nat.le_trans hb e2, e3⟩
theorem own_lt {w : World} {base s n : Nat} {e : TypeId} {v : Value} {xs : List Value} (h : w.ownsRow base e s v n xs) {i : Nat} (hi : v.ownBlock = some i) : i < w.heap.size := by
  rcases h.2 with ⟨hv, _⟩ | ⟨g, cap, cur, hv, e2, e3, _⟩
  · rw [hv] at hi; simp [Value.ownBlock] at hi
  · rw [hv] at hi
    simp [Value.ownBlock] at hi
    subst hi
    exact (Array.getElem?_eq_some_iff.1 e3).1
section
variable {w w' : World} {gd bd gr N base n c : Nat} {d : PD} {A : Option Addr} {ys : List Bsl}
theorem RecO.recs (h : RecO w base A n c ys) : RecS w base A n c ys := ⟨h.1, fun y hy => (h.2 y hy).rd⟩
theorem RecO.rd (h : RecO w base A n c ys) : RdS w w.heap.size A n c ys := h.recs.rd
theorem RecO.step (h : RecO w base A n c ys) (hb : Below w.heap.size w w') : RecO w' base A n c ys := ⟨own_below h.1 hb, fun y hy => (h.2 y hy).below hb⟩
theorem RecO.dk (h : RecO w base A n c ys) (hd : IsD w gd bd N d) (hm : Mod (fun i _ => i = gd ∨ i = bd) w w') : RecO w' base A n c ys := ⟨own_mod h.1 hm (fun i o ho _ hit e => hd.free ho hit (by decide) e), fun y hy => own_mod (show World.ownsRow _ _ _ _ _ _ _ from h.2 y hy) hm (fun i o ho _ hit e => hd.free ho hit (by decide) e)⟩
theorem RecO.rf (h : RecO w base A n c ys) (hd : IsR w gr d) (hm : Mod (fun i _ => i = gr) w w') : RecO w' base A n c ys := by
  obtain ⟨A', c', h1, h2⟩ := IsRf.ex hd
  exact ⟨own_mod h.1 hm (fun i o ho _ hit e => isT_at h1 ho hit (by decide) e), fun y hy => own_mod (show World.ownsRow _ _ _ _ _ _ _ from h.2 y hy) hm (fun i o ho _ hit e => isT_at h1 ho hit (by decide) e)⟩
theorem RecO.nil : RecO w base none 0 0 [] := ⟨World.ownsRow_nil _ _ _ _, by simp⟩
theorem RecO.lower {base' : Nat} (h : RecO w base A n c ys) (hb : base' ≤ base) : RecO w base' A n c ys := ⟨own_lower7 h.1 hb, fun y hy => (h.2 y hy).lower hb⟩
theorem RecO.apart (h : RecO w base A n c ys) {b2 s2 n2 : Nat} {v2 : Value} {xs2 : List Value} (hown : w.ownsRow b2 27 s2 v2 n2 xs2) (hlt : ∀ i, v2.ownBlock = some i → i < base) (hG : w.grownBy w' v2.ownBlock) : RecO w' base A n c ys :=
  ⟨own_mod h.1 (grown_mod hG) (fun i o _ hi _ e => absurd (hlt i e) (by omega)), fun y hy => own_mod (show World.ownsRow _ _ _ _ _ _ _ from h.2 y hy) (grown_mod hG) (fun i o ho _ hit e => absurd (isT_uniq (own_isT hown e ho).2 hit) (by decide))⟩
end
/-- a log's block -/
def IsLg (w : World) (gl gd : Nat) (nm : ByteArray) (sz : Int) (dead : Bool) : Prop := At w gl 101 [.pointer (some ⟨gd, 0, none⟩), .string nm, .int .i64 sz, .bool dead]
/-- a disk and a log on it, as data -/
structure WL where
  d : PD
  sz : Int
  dead : Bool
/-- a file has whole frames alone, and all of it is sure -/
def mendO (d : PD) (nm : ByteArray) (all good : Int) : Out := if good < all then d.cuO nm good else if d.su nm < all then d.syO nm else ⟨0, d.fs, d.lost, d.left⟩
def laO (d : PD) (nm : ByteArray) (p : List UInt8) : Out := if (d.apO nm (frameL p)).code = 0 then (d.out (d.apO nm (frameL p))).syO nm else d.apO nm (frameL p)
def waP (s : WL) (nm : ByteArray) (p : List UInt8) : Int × WL :=
  if s.dead then (12, s) else if p.length = 0 then (1, s) else
  ((laO s.d nm p).code, ⟨s.d.out (laO s.d nm p), if (laO s.d nm p).code = 0 then s.sz + (8 + p.length) else s.sz, !decide ((laO s.d nm p).code = 0)⟩)
def wcP (s : WL) (nm : ByteArray) : Int × WL :=
  if s.dead then (12, s) else
  if (s.d.cuO nm 0).code = 0 ∨ (s.d.cuO nm 0).code = 6 then (0, ⟨s.d.out (s.d.cuO nm 0), 0, false⟩) else ((s.d.cuO nm 0).code, ⟨s.d.out (s.d.cuO nm 0), s.sz, true⟩)
structure IsW (w : World) (gl gd bd N : Nat) (nm : ByteArray) (s : WL) : Prop where
  lg : IsLg w gl gd nm s.sz s.dead
  dk : IsD w gd bd N s.d
theorem dout_dout (d : PD) (a b : Out) : (d.out a).out b = d.out b := rfl
section
variable {gl gd bd N M K : Nat} {d : PD} {nm : ByteArray} {sz : Int} {dead : Bool}
theorem lg_keep {w w' : World} (h : IsLg w gl gd nm sz dead) (hd : IsD w gd bd N d) (hm : Mod (fun i _ => i = gd ∨ i = bd) w w') : IsLg w' gl gd nm sz dead := hm.at h (hd.freeAt h (by decide))
theorem lg_keepR {w w' : World} {gr : Nat} (h : IsLg w gl gd nm sz dead) (hr : IsR w gr d) (hm : Mod (fun i _ => i = gr) w w') : IsLg w' gl gd nm sz dead := hm.at h (hr.freeAt h (by decide))
theorem wdead_nil (w : World) : Calls Try.prog 32 #[.pointer none] w fun x w' => x = .returned (.bool true) ∧ w = w' := by
  go_enter Try.func32, Try.ntmps32
  go_wp2_with fail
  go_ret
  exact ⟨rfl, rfl⟩
theorem wdead_any (w : World) (h : IsLg w gl gd nm sz dead) : Calls Try.prog 32 #[.pointer (some ⟨gl, 0, none⟩)] w fun x w' => x = .returned (.bool dead) ∧ w = w' := by
  obtain ⟨⟨x0, x1, x2, x3⟩, xf⟩ := at4 h
  go_enter Try.func32, Try.ntmps32
  go_wp2_with fail
  go_ret
  exact ⟨rfl, rfl⟩
theorem wsize_nil (w : World) : Calls Try.prog 39 #[.pointer none] w fun x w' => x = .returned (.int .i64 0) ∧ w = w' := by
  go_enter Try.func39, Try.ntmps39
  go_wp2_with (((with_reducible refine ((wdead_nil w)).mono ?_); rintro z v ⟨rfl, rfl⟩))
  go_ret
  exact ⟨rfl, rfl⟩
theorem wsize_any (w : World) (h : IsLg w gl gd nm sz dead) : Calls Try.prog 39 #[.pointer (some ⟨gl, 0, none⟩)] w fun x w' => x = .returned (.int .i64 (if dead then 0 else sz)) ∧ w = w' := by
  have HD := wdead_any w h
  obtain ⟨⟨x0, x1, x2, x3⟩, xf⟩ := at4 h
  clear h
  cases dead
  · go_enter Try.func39, Try.ntmps39
    go_wp2_with (((with_reducible refine (HD).mono ?_); rintro z v ⟨rfl, rfl⟩))
    go_ret
    exact ⟨rfl, rfl⟩
  · go_enter Try.func39, Try.ntmps39
    go_wp2_with (((with_reducible refine (HD).mono ?_); rintro z v ⟨rfl, rfl⟩))
    go_ret
    exact ⟨rfl, rfl⟩
theorem wdone_any (e : Int) (w : World) (h : IsLg w gl gd nm sz dead) :
    Calls Try.prog 64 #[.pointer (some ⟨gl, 0, none⟩), .int .i64 e] w fun x w' => x = .returned (.int .i64 e) ∧ IsLg w' gl gd nm sz (dead || !decide (e = 0)) ∧ w.grownBy w' (some gl) := by
  obtain ⟨⟨x0, x1, x2, x3⟩, xf0, xf1, xf2, xf3⟩ := at4 h
  by_cases he : e = 0
  · subst he
    have H := Lib.hid h
    clear h
    go_enter Try.func64, Try.ntmps64
    go_wp2_with fail
    go_ret
    exact ⟨rfl, by simpa using H.out, World.grownBy.refl w _⟩
  · have he2 : ¬ e = 0 := he
    obtain ⟨h1, hG⟩ := At.many [(3, .bool true)] h
    dsimp only [setMany, setL, List.set] at h1 hG
    have HG := Lib.hid hG
    have H1 := Lib.hid h1
    clear h hG h1
    go_enter Try.func64, Try.ntmps64
    go_wp2_with fail
    go_ret
    exact ⟨rfl, by rw [decide_eq_false he2, Bool.not_false, Bool.or_true]; exact H1.out, HG.out⟩
/-- mend -/
theorem mend_any (all : Nat) (good : Nat) (hk : nm.size ≤ maxLen) (w : World) (h : IsD w gd bd N d) (ho : d.Ok M K) (hM : M ≤ 100000000) (hN : N < 1000000) :
    Calls Try.prog 62 #[.pointer (some ⟨gd, 0, none⟩), .string nm, .int .i64 (all : Int), .int .i64 (good : Int)] w fun x w' => DP w w' gd bd N d (mendO d nm all good) x := by
  unfold mendO
  by_cases h1 : (good : Int) < (all : Int)
  · rw [if_pos h1]
    have hd1 : decide ((good : Int) < (all : Int)) = true := decide_eq_true h1
    have hd2 : good < all := by omega
    have HC := pd_cu nm good hk w h ho hM hN
    clear h1
    go_enter Try.func62, Try.ntmps62
    go_wp2_with (((with_reducible refine (HC).mono ?_); rintro z v ⟨rfl, hm, hd⟩))
    go_ret
    exact ⟨rfl, hm, hd⟩
  · rw [if_neg h1]
    have hd1 : decide ((good : Int) < (all : Int)) = false := decide_eq_false h1
    have hd2 : all ≤ good := by omega
    have HS := pd_su nm hk w h
    have HY := pd_sy nm hk w h hN
    have H := Lib.hid h
    clear h1 h
    obtain ⟨su, hsu⟩ : ∃ su, d.su nm = su := ⟨_, rfl⟩
    rw [hsu] at HS ⊢
    by_cases h2 : su < (all : Int)
    · rw [if_pos h2]
      have hd3 : decide (su < (all : Int)) = true := decide_eq_true h2
      go_enter Try.func62, Try.ntmps62
      go_wp2_with (first | (((with_reducible refine (HS).mono ?_); rintro z v ⟨rfl, rfl⟩)) | (((with_reducible refine (HY).mono ?_); rintro z v ⟨rfl, hm, hd⟩)))
      go_ret
      exact ⟨rfl, hm, hd⟩
    · rw [if_neg h2]
      have hd3 : decide (su < (all : Int)) = false := decide_eq_false h2
      go_enter Try.func62, Try.ntmps62
      go_wp2_with (((with_reducible refine (HS).mono ?_); rintro z v ⟨rfl, rfl⟩))
      go_ret
      exact ⟨rfl, Mod.refl _ _, H.out.more (Nat.le_succ _)⟩
/-- Clear -/
theorem lg_mod {w w' : World} {gl : Nat} (h : w.grownBy w' (some gl)) : Mod (fun i _ => i = gl ∨ i = gd ∨ i = bd) w w' := (mod_one h).mono fun i o _ _ e => .inl e
theorem lg_mod2 {w w' : World} {gl : Nat} (h : Mod (fun i _ => i = gd ∨ i = bd) w w') : Mod (fun i _ => i = gl ∨ i = gd ∨ i = bd) w w' := h.mono fun i o _ _ e => .inr e
theorem wclear_nil (w : World) : Calls Try.prog 38 #[.pointer none] w fun x w' => x = .returned (.int .i64 2) ∧ w = w' := by
  go_enter Try.func38, Try.ntmps38
  go_wp2_with fail
  go_ret
  exact ⟨rfl, rfl⟩
theorem wapp_nil (A : Option Addr) (n c : Nat) (w : World) : Calls Try.prog 34 #[.pointer none, .slice A n c] w fun x w' => x = .returned (.int .i64 2) ∧ w = w' := by
  go_enter Try.func34, Try.ntmps34
  go_wp2_with fail
  go_ret
  exact ⟨rfl, rfl⟩
def WP (w w' : World) (gl gd bd N : Nat) (nm : ByteArray) (o : Int × WL) (x : Ending) : Prop := x = .returned (.int .i64 o.1) ∧ Mod (fun i _ => i = gl ∨ i = gd ∨ i = bd) w w' ∧ IsW w' gl gd bd (N + 2) nm o.2
theorem wclear_any (s : WL) (hk : nm.size ≤ maxLen) (w : World) (h : IsW w gl gd bd N nm s) (ho : s.d.Ok M K) (hM : M ≤ 100000000) (hN : N < 1000000) :
    Calls Try.prog 38 #[.pointer (some ⟨gl, 0, none⟩)] w fun x w' => WP w w' gl gd bd N nm (wcP s nm) x := by
  obtain ⟨d, sz, dead⟩ := s
  obtain ⟨hl, hd⟩ := h
  simp only at hl hd ho
  unfold wcP
  simp only
  have h4 := hl
  obtain ⟨⟨x0, x1, x2, x3⟩, xf0, xf1, xf2, xf3⟩ := at4 hl
  cases dead with
  | true =>
    have HL := Lib.hid hl
    have HD := Lib.hid hd
    clear hl hd h4
    rw [if_pos rfl]
    go_enter Try.func38, Try.ntmps38
    go_wp2_with fail
    go_ret
    exact ⟨rfl, Mod.refl _ _, ⟨HL.out, HD.out.more (by omega)⟩⟩
  | false =>
    rw [if_neg Bool.false_ne_true]
    have HC := fun v (h : IsD v gd bd N d) => pd_cu nm 0 hk v h ho hM hN
    obtain ⟨o, hoo⟩ : ∃ o, d.cuO nm 0 = o := ⟨_, rfl⟩
    rw [hoo]
    simp only [hoo] at HC
    clear hoo
    go_enter Try.func38, Try.ntmps38
    go_upto_region 5 with fail
    refine region_any (by kernel_rfl) ?_
    change wpAny _ _ _ _ _ _ _ (World.drew _)
    have hm0 : Mod (fun i _ => i = gl ∨ i = gd ∨ i = bd) w w.drew := (Mod.refl _ w).drew
    replace hl : IsLg w.drew gl gd nm sz false := hl
    replace hd := hd.drew
    clear h4 x0 x1 x2 x3 xf0 xf1 xf2 xf3
    generalize World.drew _ = w1 at *
    obtain ⟨⟨x0, x1, x2, x3⟩, xf0, xf1, xf2, xf3⟩ := at4 hl
    have l4 := hl.lt
    refine stage 8 ?_
    refine stage_read (i := 0) (v := ?_) rfl (by kernel_rfl) (by kernel_rfl) (by kernel_rfl) (by kernel_rfl) (by kernel_rfl) (by kernel_rfl) (fun _ _ _ h => h) (Or.inl ⟨by kernel_rfl, ?_⟩) ?_
    rotate_left
    · (intro wS hwS; obtain ⟨hcS, hfS, hhS⟩ := bcell hwS; go_simp; try (first | (with_reducible rfl) | rw [if_pos (by omega)] | rw [if_neg (by omega)]))
    try simp only [Act.put, List.getElem_toArray, List.getElem_cons_succ, List.getElem_cons_zero, List.setIfInBounds_toArray, List.set_cons_zero, List.set_cons_succ]
    refine stage_read (i := 1) (v := ?_) rfl (by kernel_rfl) (by kernel_rfl) (by kernel_rfl) (by kernel_rfl) (by kernel_rfl) (by kernel_rfl) (fun _ _ _ h => h) (Or.inl ⟨by kernel_rfl, ?_⟩) ?_
    rotate_left
    · (intro wS hwS; obtain ⟨hcS, hfS, hhS⟩ := bcell hwS; go_simp; try (first | (with_reducible rfl) | rw [if_pos (by omega)] | rw [if_neg (by omega)]))
    try simp only [Act.put, List.getElem_toArray, List.getElem_cons_succ, List.getElem_cons_zero, List.setIfInBounds_toArray, List.set_cons_zero, List.set_cons_succ]
    refine stage_read (i := 2) (v := ?_) rfl (by kernel_rfl) (by kernel_rfl) (by kernel_rfl) (by kernel_rfl) (by kernel_rfl) (by kernel_rfl) (fun _ _ _ h => h) (Or.inl ⟨by kernel_rfl, ?_⟩) ?_
    rotate_left
    · (intro wS hwS; obtain ⟨hcS, hfS, hhS⟩ := bcell hwS; go_simp; try (first | (with_reducible rfl) | rw [if_pos (by omega)] | rw [if_neg (by omega)]))
    try simp only [Act.put, List.getElem_toArray, List.getElem_cons_succ, List.getElem_cons_zero, List.setIfInBounds_toArray, List.set_cons_zero, List.set_cons_succ]
    refine stage_read (i := 3) (v := ?_) rfl (by kernel_rfl) (by kernel_rfl) (by kernel_rfl) (by kernel_rfl) (by kernel_rfl) (by kernel_rfl) (fun _ _ _ h => h) (Or.inl ⟨by kernel_rfl, ?_⟩) ?_
    rotate_left
    · (intro wS hwS; obtain ⟨hcS, hfS, hhS⟩ := bcell hwS; go_simp; try (first | (with_reducible rfl) | rw [if_pos (by omega)] | rw [if_neg (by omega)]))
    try simp only [Act.put, List.getElem_toArray, List.getElem_cons_succ, List.getElem_cons_zero, List.setIfInBounds_toArray, List.set_cons_zero, List.set_cons_succ]
    refine stage_read (i := 4) (v := ?_) rfl (by kernel_rfl) (by kernel_rfl) (by kernel_rfl) (by kernel_rfl) (by kernel_rfl) (by kernel_rfl) (fun _ _ _ h => h) (Or.inl ⟨by kernel_rfl, ?_⟩) ?_
    rotate_left
    · (intro wS hwS; obtain ⟨hcS, hfS, hhS⟩ := bcell hwS; go_simp; try (first | (with_reducible rfl) | rw [if_pos (by omega)] | rw [if_neg (by omega)]))
    try simp only [Act.put, List.getElem_toArray, List.getElem_cons_succ, List.getElem_cons_zero, List.setIfInBounds_toArray, List.set_cons_zero, List.set_cons_succ]
    refine stage_read (i := 5) (v := ?_) rfl (by kernel_rfl) (by kernel_rfl) (by kernel_rfl) (by kernel_rfl) (by kernel_rfl) (by kernel_rfl) (fun _ _ _ h => h) (Or.inl ⟨by kernel_rfl, ?_⟩) ?_
    rotate_left
    · (intro wS hwS; obtain ⟨hcS, hfS, hhS⟩ := bcell hwS; go_simp; try (first | (with_reducible rfl) | rw [if_pos (by omega)] | rw [if_neg (by omega)]))
    try simp only [Act.put, List.getElem_toArray, List.getElem_cons_succ, List.getElem_cons_zero, List.setIfInBounds_toArray, List.set_cons_zero, List.set_cons_succ]
    refine stage_read (i := 6) (v := ?_) rfl (by kernel_rfl) (by kernel_rfl) (by kernel_rfl) (by kernel_rfl) (by kernel_rfl) (by kernel_rfl) (fun _ _ _ h => h) (Or.inl ⟨by kernel_rfl, ?_⟩) ?_
    rotate_left
    · (intro wS hwS; obtain ⟨hcS, hfS, hhS⟩ := bcell hwS; go_simp; try (first | (with_reducible rfl) | rw [if_pos (by omega)] | rw [if_neg (by omega)]))
    try simp only [Act.put, List.getElem_toArray, List.getElem_cons_succ, List.getElem_cons_zero, List.setIfInBounds_toArray, List.set_cons_zero, List.set_cons_succ]
    refine stage_read (i := 7) (v := ?_) rfl (by kernel_rfl) (by kernel_rfl) (by kernel_rfl) (by kernel_rfl) (by kernel_rfl) (by kernel_rfl) (fun _ _ _ h => h) (Or.inl ⟨by kernel_rfl, ?_⟩) ?_
    rotate_left
    · (intro wS hwS; obtain ⟨hcS, hfS, hhS⟩ := bcell hwS; go_simp; try (first | (with_reducible rfl) | rw [if_pos (by omega)] | rw [if_neg (by omega)]))
    try simp only [Act.put, List.getElem_toArray, List.getElem_cons_succ, List.getElem_cons_zero, List.setIfInBounds_toArray, List.set_cons_zero, List.set_cons_succ]
    refine stage_end (by kernel_rfl) rfl (fun K hK => ?_)
    go_simp
    refine (HC _ hd).mono ?_
    rintro z w2 ⟨rfl, hm2, hd2⟩
    refine hK.out _ _ ?_
    clear hK K
    try simp only [Act.put, List.getElem_toArray, List.getElem_cons_succ, List.getElem_cons_zero, List.setIfInBounds_toArray, List.set_cons_zero, List.set_cons_succ]
    first | refine stage 1000000 ?_ | skip
    refine stage_read (i := 9) (v := ?_) rfl (by kernel_rfl) (by kernel_rfl) (by kernel_rfl) (by kernel_rfl) (by kernel_rfl) (by kernel_rfl) (fun _ _ _ h => h) (Or.inl ⟨by kernel_rfl, ?_⟩) ?_
    rotate_left
    · (intro wS hwS; obtain ⟨hcS, hfS, hhS⟩ := bcell hwS; go_simp; try (first | (with_reducible rfl) | rw [if_pos (by omega)] | rw [if_neg (by omega)]))
    try simp only [Act.put, List.getElem_toArray, List.getElem_cons_succ, List.getElem_cons_zero, List.setIfInBounds_toArray, List.set_cons_zero, List.set_cons_succ]
    first | refine wpAnyT_done (by kernel_rfl) ?_ _ | refine wpAny_done (by kernel_rfl) ?_ _
    have hl2 := lg_keep hl hd hm2
    have HM := Lib.hid (hm0.trans (lg_mod2 (gl := gl) hm2))
    clear x0 x1 x2 x3 xf0 xf1 xf2 xf3 l4 hl hd hm0 hm2 HC
    obtain ⟨⟨x0, x1, x2, x3⟩, xf0, xf1, xf2, xf3⟩ := at4 hl2
    obtain ⟨oc, ocr, olo, olf⟩ := o
    simp only
    have H2 := Lib.hid hl2
    have HD2 := Lib.hid hd2
    clear hd2 ho
    by_cases ok : oc = 0 ∨ oc = 6
    · obtain ⟨h5, hG5⟩ := At.many [(2, .int .i64 0)] hl2
      dsimp only [setMany, setL, List.set] at h5 hG5
      have hd5 := HD2.out.other hl2 (by decide) (by decide) (mod_one hG5)
      have HM5 := Lib.hid (HM.out.trans (lg_mod hG5))
      have HDN := wdone_any 0 _ (show IsLg (w2.setCell ⟨gl, 2, none⟩ (.int .i64 0)) gl gd nm 0 false from h5)
      have HD5 := Lib.hid hd5
      clear hl2 hG5 hd5
      rcases ok with rfl | rfl
      · go_upto_region 10 with fail
        clear x0 x1 x2 x3 xf0 xf1 xf2 xf3 HM
        generalize World.setCell _ _ _ = w3 at *
        go_wp2_with (((with_reducible refine (HDN).mono ?_); rintro z w4 ⟨rfl, h6, hG6⟩))
        go_ret
        exact ⟨rfl, HM5.out.trans (lg_mod hG6), ⟨h6, (HD5.out.other h5 (by decide) (by decide) (mod_one hG6)).more (by omega)⟩⟩
      · go_upto_region 10 with fail
        clear x0 x1 x2 x3 xf0 xf1 xf2 xf3 HM
        generalize World.setCell _ _ _ = w3 at *
        go_wp2_with (((with_reducible refine (HDN).mono ?_); rintro z w4 ⟨rfl, h6, hG6⟩))
        go_ret
        exact ⟨rfl, HM5.out.trans (lg_mod hG6), ⟨h6, (HD5.out.other h5 (by decide) (by decide) (mod_one hG6)).more (by omega)⟩⟩
    · have OK := Lib.hid ok
      have ok0 : (oc == 0) = false := by simpa using (not_or.1 ok).1
      have ok6 : (oc == 6) = false := by simpa using (not_or.1 ok).2
      have ne0 : ¬ oc = 0 := (not_or.1 ok).1
      have HDN := wdone_any oc w2 hl2
      rw [decide_eq_false ne0] at HDN
      clear hl2 ok ne0 x0 x1 x2 x3 xf0 xf1 xf2 xf3
      go_wp2_with (((with_reducible refine (HDN).mono ?_); rintro z w3 ⟨rfl, h6, hG6⟩))
      go_ret
      exact ⟨rfl, HM.out.trans (lg_mod hG6), ⟨h6, (HD2.out.other H2.out (by decide) (by decide) (mod_one hG6)).more (by omega)⟩⟩
set_option maxRecDepth 100000 in
set_option maxHeartbeats 2000000 in
theorem wapp_any (s : WL) (hk : nm.size ≤ maxLen) (A : Option Addr) (n c : Nat) (p : List UInt8) (w : World) (h : IsW w gl gd bd N nm s) (ho : s.d.Ok M K) (hM : M ≤ 100000000) (hN : N < 900000) (hr : RdB w w.heap.size A n c p) (hn : n ≤ 1048576) (hsz : 0 ≤ s.sz ∧ s.sz ≤ 1099511627776) :
    Calls Try.prog 34 #[.pointer (some ⟨gl, 0, none⟩), .slice A n c] w fun x w' => WP w w' gl gd bd N nm (waP s nm p) x := by
  obtain ⟨d, sz, dead⟩ := s
  obtain ⟨hl, hd⟩ := h
  simp only at hl hd ho hsz
  have hpn := hr.length
  obtain ⟨⟨x0, x1, x2, x3⟩, xf0, xf1, xf2, xf3⟩ := at4 hl
  unfold waP
  simp only
  cases dead with
  | true =>
    have HL := Lib.hid hl
    have HD := Lib.hid hd
    clear hl hd
    rw [if_pos rfl]
    go_enter Try.func34, Try.ntmps34
    go_wp2_with fail
    go_ret
    exact ⟨rfl, Mod.refl _ _, ⟨HL.out, HD.out.more (by omega)⟩⟩
  | false =>
    rw [if_neg Bool.false_ne_true]
    by_cases hn0 : n = 0
    · subst hn0
      rw [if_pos hpn]
      have HL := Lib.hid hl
      have HD := Lib.hid hd
      have HF := fput_zero A c w
      clear hl hd
      go_enter Try.func34, Try.ntmps34
      go_wp2_with (((with_reducible refine (HF).mono ?_); rintro z v ⟨rfl, rfl⟩))
      go_ret
      exact ⟨rfl, Mod.refl _ _, ⟨HL.out, HD.out.more (by omega)⟩⟩
    · rw [if_neg (by omega)]
      have HPUT := fput_ok A n c p w hr (by omega) hn
      have HA := fun (A : Option Addr) (n c : Nat) (v : World) (h : IsD v gd bd N d) hr hn => pd_ap nm hk A n c (frameL p) v h ho hM hr hn (by omega)
      unfold laO
      obtain ⟨o1, ho1⟩ : ∃ o1, d.apO nm (frameL p) = o1 := ⟨_, rfl⟩
      have HS := fun (v : World) (h : IsD v gd bd (N + 1) (d.out o1)) => pd_sy nm hk v h (by omega)
      obtain ⟨o2, ho2⟩ : ∃ o2, (d.out o1).syO nm = o2 := ⟨_, rfl⟩
      simp only [ho1, ho2] at HA HS ⊢
      rw [hpn]
      clear ho1 ho2 ho
      go_enter Try.func34, Try.ntmps34
      go_upto_region 6 with (((with_reducible refine (HPUT).mono ?_); rintro z w1 ⟨A2, c2, rfl, hown, hb1⟩))
      have hm0 : Mod (fun i _ => i = gl ∨ i = gd ∨ i = bd) w w1 := (Mod.refl _ w).below hb1
      replace hl : IsLg w1 gl gd nm sz false := hl.step hb1
      replace hd := hd.step hb1
      have hrd := hown.rd
      clear hown hb1 HPUT x0 x1 x2 x3 xf0 xf1 xf2 xf3 hr
      obtain ⟨⟨x0, x1, x2, x3⟩, xf0, xf1, xf2, xf3⟩ := at4 hl
      go_upto_region 8 with fail
      refine region_any (by kernel_rfl) ?_
      change wpAny _ _ _ _ _ _ _ (World.drew _)
      replace hm0 := hm0.drew
      replace hl : IsLg _ gl gd nm sz false := At.drew hl
      replace hd := hd.drew
      replace hrd := hrd.step (Below.drew (Below.refl _ _))
      clear x0 x1 x2 x3 xf0 xf1 xf2 xf3
      generalize World.drew _ = w2 at *
      obtain ⟨⟨x0, x1, x2, x3⟩, xf0, xf1, xf2, xf3⟩ := at4 hl
      have l4 := hl.lt
      refine stage 9 ?_
      refine stage_read (i := 0) (v := ?_) rfl (by kernel_rfl) (by kernel_rfl) (by kernel_rfl) (by kernel_rfl) (by kernel_rfl) (by kernel_rfl) (fun _ _ _ h => h) (Or.inl ⟨by kernel_rfl, ?_⟩) ?_
      rotate_left
      · (intro wS hwS; obtain ⟨hcS, hfS, hhS⟩ := bcell hwS; go_simp; try (first | (with_reducible rfl) | rw [if_pos (by omega)] | rw [if_neg (by omega)]))
      try simp only [Act.put, List.getElem_toArray, List.getElem_cons_succ, List.getElem_cons_zero, List.setIfInBounds_toArray, List.set_cons_zero, List.set_cons_succ]
      refine stage_read (i := 1) (v := ?_) rfl (by kernel_rfl) (by kernel_rfl) (by kernel_rfl) (by kernel_rfl) (by kernel_rfl) (by kernel_rfl) (fun _ _ _ h => h) (Or.inl ⟨by kernel_rfl, ?_⟩) ?_
      rotate_left
      · (intro wS hwS; obtain ⟨hcS, hfS, hhS⟩ := bcell hwS; go_simp; try (first | (with_reducible rfl) | rw [if_pos (by omega)] | rw [if_neg (by omega)]))
      try simp only [Act.put, List.getElem_toArray, List.getElem_cons_succ, List.getElem_cons_zero, List.setIfInBounds_toArray, List.set_cons_zero, List.set_cons_succ]
      refine stage_read (i := 2) (v := ?_) rfl (by kernel_rfl) (by kernel_rfl) (by kernel_rfl) (by kernel_rfl) (by kernel_rfl) (by kernel_rfl) (fun _ _ _ h => h) (Or.inl ⟨by kernel_rfl, ?_⟩) ?_
      rotate_left
      · (intro wS hwS; obtain ⟨hcS, hfS, hhS⟩ := bcell hwS; go_simp; try (first | (with_reducible rfl) | rw [if_pos (by omega)] | rw [if_neg (by omega)]))
      try simp only [Act.put, List.getElem_toArray, List.getElem_cons_succ, List.getElem_cons_zero, List.setIfInBounds_toArray, List.set_cons_zero, List.set_cons_succ]
      refine stage_read (i := 3) (v := ?_) rfl (by kernel_rfl) (by kernel_rfl) (by kernel_rfl) (by kernel_rfl) (by kernel_rfl) (by kernel_rfl) (fun _ _ _ h => h) (Or.inl ⟨by kernel_rfl, ?_⟩) ?_
      rotate_left
      · (intro wS hwS; obtain ⟨hcS, hfS, hhS⟩ := bcell hwS; go_simp; try (first | (with_reducible rfl) | rw [if_pos (by omega)] | rw [if_neg (by omega)]))
      try simp only [Act.put, List.getElem_toArray, List.getElem_cons_succ, List.getElem_cons_zero, List.setIfInBounds_toArray, List.set_cons_zero, List.set_cons_succ]
      refine stage_read (i := 4) (v := ?_) rfl (by kernel_rfl) (by kernel_rfl) (by kernel_rfl) (by kernel_rfl) (by kernel_rfl) (by kernel_rfl) (fun _ _ _ h => h) (Or.inl ⟨by kernel_rfl, ?_⟩) ?_
      rotate_left
      · (intro wS hwS; obtain ⟨hcS, hfS, hhS⟩ := bcell hwS; go_simp; try (first | (with_reducible rfl) | rw [if_pos (by omega)] | rw [if_neg (by omega)]))
      try simp only [Act.put, List.getElem_toArray, List.getElem_cons_succ, List.getElem_cons_zero, List.setIfInBounds_toArray, List.set_cons_zero, List.set_cons_succ]
      refine stage_read (i := 5) (v := ?_) rfl (by kernel_rfl) (by kernel_rfl) (by kernel_rfl) (by kernel_rfl) (by kernel_rfl) (by kernel_rfl) (fun _ _ _ h => h) (Or.inl ⟨by kernel_rfl, ?_⟩) ?_
      rotate_left
      · (intro wS hwS; obtain ⟨hcS, hfS, hhS⟩ := bcell hwS; go_simp; try (first | (with_reducible rfl) | rw [if_pos (by omega)] | rw [if_neg (by omega)]))
      try simp only [Act.put, List.getElem_toArray, List.getElem_cons_succ, List.getElem_cons_zero, List.setIfInBounds_toArray, List.set_cons_zero, List.set_cons_succ]
      refine stage_read (i := 6) (v := ?_) rfl (by kernel_rfl) (by kernel_rfl) (by kernel_rfl) (by kernel_rfl) (by kernel_rfl) (by kernel_rfl) (fun _ _ _ h => h) (Or.inl ⟨by kernel_rfl, ?_⟩) ?_
      rotate_left
      · (intro wS hwS; obtain ⟨hcS, hfS, hhS⟩ := bcell hwS; go_simp; try (first | (with_reducible rfl) | rw [if_pos (by omega)] | rw [if_neg (by omega)]))
      try simp only [Act.put, List.getElem_toArray, List.getElem_cons_succ, List.getElem_cons_zero, List.setIfInBounds_toArray, List.set_cons_zero, List.set_cons_succ]
      refine stage_read (i := 7) (v := ?_) rfl (by kernel_rfl) (by kernel_rfl) (by kernel_rfl) (by kernel_rfl) (by kernel_rfl) (by kernel_rfl) (fun _ _ _ h => h) (Or.inl ⟨by kernel_rfl, ?_⟩) ?_
      rotate_left
      · (intro wS hwS; obtain ⟨hcS, hfS, hhS⟩ := bcell hwS; go_simp; try (first | (with_reducible rfl) | rw [if_pos (by omega)] | rw [if_neg (by omega)]))
      try simp only [Act.put, List.getElem_toArray, List.getElem_cons_succ, List.getElem_cons_zero, List.setIfInBounds_toArray, List.set_cons_zero, List.set_cons_succ]
      refine stage_read (i := 8) (v := ?_) rfl (by kernel_rfl) (by kernel_rfl) (by kernel_rfl) (by kernel_rfl) (by kernel_rfl) (by kernel_rfl) (fun _ _ _ h => h) (Or.inl ⟨by kernel_rfl, ?_⟩) ?_
      rotate_left
      · (intro wS hwS; obtain ⟨hcS, hfS, hhS⟩ := bcell hwS; go_simp; try (first | (with_reducible rfl) | rw [if_pos (by omega)] | rw [if_neg (by omega)]))
      try simp only [Act.put, List.getElem_toArray, List.getElem_cons_succ, List.getElem_cons_zero, List.setIfInBounds_toArray, List.set_cons_zero, List.set_cons_succ]
      refine stage_end (by kernel_rfl) rfl (fun K hK => ?_)
      go_simp
      refine (HA _ _ _ _ hd (fun u hG => hd.rdb hrd (Nat.le_refl _) (grown_mod' hG)) (by omega)).mono ?_
      rintro z v3 ⟨rfl, hm2, hd2⟩
      refine hK.out _ _ ?_
      clear hK K
      try simp only [Act.put, List.getElem_toArray, List.getElem_cons_succ, List.getElem_cons_zero, List.setIfInBounds_toArray, List.set_cons_zero, List.set_cons_succ]
      first | refine stage 1000000 ?_ | skip
      refine stage_read (i := 10) (v := ?_) rfl (by kernel_rfl) (by kernel_rfl) (by kernel_rfl) (by kernel_rfl) (by kernel_rfl) (by kernel_rfl) (fun _ _ _ h => h) (Or.inl ⟨by kernel_rfl, ?_⟩) ?_
      rotate_left
      · (intro wS hwS; obtain ⟨hcS, hfS, hhS⟩ := bcell hwS; go_simp; try (first | (with_reducible rfl) | rw [if_pos (by omega)] | rw [if_neg (by omega)]))
      try simp only [Act.put, List.getElem_toArray, List.getElem_cons_succ, List.getElem_cons_zero, List.setIfInBounds_toArray, List.set_cons_zero, List.set_cons_succ]
      first | refine wpAnyT_done (by kernel_rfl) ?_ _ | refine wpAny_done (by kernel_rfl) ?_ _
      replace hl := lg_keep hl hd hm2
      replace hm0 := hm0.trans (lg_mod2 (gl := gl) hm2)
      clear x0 x1 x2 x3 xf0 xf1 xf2 xf3 l4 hd hm2 HA hrd
      replace hd := hd2
      clear hd2
      obtain ⟨⟨x0, x1, x2, x3⟩, xf0, xf1, xf2, xf3⟩ := at4 hl
      obtain ⟨oc, ocr, olo, olf⟩ := o1
      simp only at HS hd ⊢
      by_cases e1 : oc = 0
      · subst e1
        go_upto_region 10 with fail
        refine region_any (by kernel_rfl) ?_
        change wpAny _ _ _ _ _ _ _ (World.drew _)
        replace hm0 := hm0.drew
        replace hl : IsLg _ gl gd nm sz false := At.drew hl
        replace hd := hd.drew
        skip
        clear x0 x1 x2 x3 xf0 xf1 xf2 xf3
        generalize World.drew _ = w4 at *
        obtain ⟨⟨x0, x1, x2, x3⟩, xf0, xf1, xf2, xf3⟩ := at4 hl
        have l4 := hl.lt
        refine stage 8 ?_
        refine stage_read (i := 0) (v := ?_) rfl (by kernel_rfl) (by kernel_rfl) (by kernel_rfl) (by kernel_rfl) (by kernel_rfl) (by kernel_rfl) (fun _ _ _ h => h) (Or.inl ⟨by kernel_rfl, ?_⟩) ?_
        rotate_left
        · (intro wS hwS; obtain ⟨hcS, hfS, hhS⟩ := bcell hwS; go_simp; try (first | (with_reducible rfl) | rw [if_pos (by omega)] | rw [if_neg (by omega)]))
        try simp only [Act.put, List.getElem_toArray, List.getElem_cons_succ, List.getElem_cons_zero, List.setIfInBounds_toArray, List.set_cons_zero, List.set_cons_succ]
        refine stage_read (i := 1) (v := ?_) rfl (by kernel_rfl) (by kernel_rfl) (by kernel_rfl) (by kernel_rfl) (by kernel_rfl) (by kernel_rfl) (fun _ _ _ h => h) (Or.inl ⟨by kernel_rfl, ?_⟩) ?_
        rotate_left
        · (intro wS hwS; obtain ⟨hcS, hfS, hhS⟩ := bcell hwS; go_simp; try (first | (with_reducible rfl) | rw [if_pos (by omega)] | rw [if_neg (by omega)]))
        try simp only [Act.put, List.getElem_toArray, List.getElem_cons_succ, List.getElem_cons_zero, List.setIfInBounds_toArray, List.set_cons_zero, List.set_cons_succ]
        refine stage_read (i := 2) (v := ?_) rfl (by kernel_rfl) (by kernel_rfl) (by kernel_rfl) (by kernel_rfl) (by kernel_rfl) (by kernel_rfl) (fun _ _ _ h => h) (Or.inl ⟨by kernel_rfl, ?_⟩) ?_
        rotate_left
        · (intro wS hwS; obtain ⟨hcS, hfS, hhS⟩ := bcell hwS; go_simp; try (first | (with_reducible rfl) | rw [if_pos (by omega)] | rw [if_neg (by omega)]))
        try simp only [Act.put, List.getElem_toArray, List.getElem_cons_succ, List.getElem_cons_zero, List.setIfInBounds_toArray, List.set_cons_zero, List.set_cons_succ]
        refine stage_read (i := 3) (v := ?_) rfl (by kernel_rfl) (by kernel_rfl) (by kernel_rfl) (by kernel_rfl) (by kernel_rfl) (by kernel_rfl) (fun _ _ _ h => h) (Or.inl ⟨by kernel_rfl, ?_⟩) ?_
        rotate_left
        · (intro wS hwS; obtain ⟨hcS, hfS, hhS⟩ := bcell hwS; go_simp; try (first | (with_reducible rfl) | rw [if_pos (by omega)] | rw [if_neg (by omega)]))
        try simp only [Act.put, List.getElem_toArray, List.getElem_cons_succ, List.getElem_cons_zero, List.setIfInBounds_toArray, List.set_cons_zero, List.set_cons_succ]
        refine stage_read (i := 4) (v := ?_) rfl (by kernel_rfl) (by kernel_rfl) (by kernel_rfl) (by kernel_rfl) (by kernel_rfl) (by kernel_rfl) (fun _ _ _ h => h) (Or.inl ⟨by kernel_rfl, ?_⟩) ?_
        rotate_left
        · (intro wS hwS; obtain ⟨hcS, hfS, hhS⟩ := bcell hwS; go_simp; try (first | (with_reducible rfl) | rw [if_pos (by omega)] | rw [if_neg (by omega)]))
        try simp only [Act.put, List.getElem_toArray, List.getElem_cons_succ, List.getElem_cons_zero, List.setIfInBounds_toArray, List.set_cons_zero, List.set_cons_succ]
        refine stage_read (i := 5) (v := ?_) rfl (by kernel_rfl) (by kernel_rfl) (by kernel_rfl) (by kernel_rfl) (by kernel_rfl) (by kernel_rfl) (fun _ _ _ h => h) (Or.inl ⟨by kernel_rfl, ?_⟩) ?_
        rotate_left
        · (intro wS hwS; obtain ⟨hcS, hfS, hhS⟩ := bcell hwS; go_simp; try (first | (with_reducible rfl) | rw [if_pos (by omega)] | rw [if_neg (by omega)]))
        try simp only [Act.put, List.getElem_toArray, List.getElem_cons_succ, List.getElem_cons_zero, List.setIfInBounds_toArray, List.set_cons_zero, List.set_cons_succ]
        refine stage_read (i := 6) (v := ?_) rfl (by kernel_rfl) (by kernel_rfl) (by kernel_rfl) (by kernel_rfl) (by kernel_rfl) (by kernel_rfl) (fun _ _ _ h => h) (Or.inl ⟨by kernel_rfl, ?_⟩) ?_
        rotate_left
        · (intro wS hwS; obtain ⟨hcS, hfS, hhS⟩ := bcell hwS; go_simp; try (first | (with_reducible rfl) | rw [if_pos (by omega)] | rw [if_neg (by omega)]))
        try simp only [Act.put, List.getElem_toArray, List.getElem_cons_succ, List.getElem_cons_zero, List.setIfInBounds_toArray, List.set_cons_zero, List.set_cons_succ]
        refine stage_read (i := 7) (v := ?_) rfl (by kernel_rfl) (by kernel_rfl) (by kernel_rfl) (by kernel_rfl) (by kernel_rfl) (by kernel_rfl) (fun _ _ _ h => h) (Or.inl ⟨by kernel_rfl, ?_⟩) ?_
        rotate_left
        · (intro wS hwS; obtain ⟨hcS, hfS, hhS⟩ := bcell hwS; go_simp; try (first | (with_reducible rfl) | rw [if_pos (by omega)] | rw [if_neg (by omega)]))
        try simp only [Act.put, List.getElem_toArray, List.getElem_cons_succ, List.getElem_cons_zero, List.setIfInBounds_toArray, List.set_cons_zero, List.set_cons_succ]
        refine stage_end (by kernel_rfl) rfl (fun K hK => ?_)
        go_simp
        refine (HS _ hd).mono ?_
        rintro z v3 ⟨rfl, hm2, hd2⟩
        refine hK.out _ _ ?_
        clear hK K
        try simp only [Act.put, List.getElem_toArray, List.getElem_cons_succ, List.getElem_cons_zero, List.setIfInBounds_toArray, List.set_cons_zero, List.set_cons_succ]
        first | refine stage 1000000 ?_ | skip
        refine stage_read (i := 9) (v := ?_) rfl (by kernel_rfl) (by kernel_rfl) (by kernel_rfl) (by kernel_rfl) (by kernel_rfl) (by kernel_rfl) (fun _ _ _ h => h) (Or.inl ⟨by kernel_rfl, ?_⟩) ?_
        rotate_left
        · (intro wS hwS; obtain ⟨hcS, hfS, hhS⟩ := bcell hwS; go_simp; try (first | (with_reducible rfl) | rw [if_pos (by omega)] | rw [if_neg (by omega)]))
        try simp only [Act.put, List.getElem_toArray, List.getElem_cons_succ, List.getElem_cons_zero, List.setIfInBounds_toArray, List.set_cons_zero, List.set_cons_succ]
        first | refine wpAnyT_done (by kernel_rfl) ?_ _ | refine wpAny_done (by kernel_rfl) ?_ _
        replace hl := lg_keep hl hd hm2
        replace hm0 := hm0.trans (lg_mod2 (gl := gl) hm2)
        clear x0 x1 x2 x3 xf0 xf1 xf2 xf3 l4 hd hm2 HS
        replace hd := hd2
        clear hd2
        obtain ⟨⟨x0, x1, x2, x3⟩, xf0, xf1, xf2, xf3⟩ := at4 hl
        obtain ⟨pc, pcr, plo, plf⟩ := o2
        simp only at hd ⊢
        by_cases e2 : pc = 0
        · subst e2
          obtain ⟨h5, hG5⟩ := At.many [(2, .int .i64 (sz + (8 + (n : Int))))] hl
          dsimp only [setMany, setL, List.set] at h5 hG5
          have hd5 := hd.other hl (by decide) (by decide) (mod_one hG5)
          have HM5 := Lib.hid (hm0.trans (lg_mod hG5))
          have HDN := wdone_any 0 _ h5
          have HD5 := Lib.hid hd5
          have H5 := Lib.hid h5
          have hwr : IntKind.i64.wrap (sz + (8 + (n : Int))) = sz + (8 + (n : Int)) := IntWalk.i64_in _ (by omega)
          clear hl hm0 hG5 hd hd5
          go_upto_region 13 with fail
          clear x0 x1 x2 x3 xf0 xf1 xf2 xf3 hwr
          generalize World.setCell _ _ _ = w5 at *
          go_wp2_with (((with_reducible refine (HDN).mono ?_); rintro z w9 ⟨rfl, h6, hG6⟩))
          go_ret
          exact ⟨rfl, HM5.out.trans (lg_mod hG6), ⟨h6, (HD5.out.other H5.out (by decide) (by decide) (mod_one hG6))⟩⟩
        · have ne0 : ¬ pc = 0 := e2
          have ok0 : (pc == 0) = false := by simpa using e2
          have HDN := wdone_any pc _ hl
          rw [decide_eq_false ne0] at HDN
          have HL := Lib.hid hl
          have HD := Lib.hid hd
          have HM := Lib.hid hm0
          clear hl hd hm0 x0 x1 x2 x3 xf0 xf1 xf2 xf3
          go_wp2_with (((with_reducible refine (HDN).mono ?_); rintro z w9 ⟨rfl, h6, hG6⟩))
          go_ret
          exact ⟨rfl, HM.out.trans (lg_mod hG6), ⟨h6, (HD.out.other HL.out (by decide) (by decide) (mod_one hG6)).more (by omega)⟩⟩
      · have ne0 : ¬ oc = 0 := e1
        have ok0 : (oc == 0) = false := by simpa using e1
        have HDN := wdone_any oc _ hl
        rw [decide_eq_false ne0] at HDN
        have HL := Lib.hid hl
        have HD := Lib.hid hd
        have HM := Lib.hid hm0
        clear hl hd hm0 x0 x1 x2 x3 xf0 xf1 xf2 xf3
        go_wp2_with (((with_reducible refine (HDN).mono ?_); rintro z w9 ⟨rfl, h6, hG6⟩))
        go_ret
        exact ⟨rfl, HM.out.trans (lg_mod hG6), ⟨h6, (HD.out.other HL.out (by decide) (by decide) (mod_one hG6)).more (by omega)⟩⟩
end
end Go.Proofs.Ytmoijbknjadeeaa
