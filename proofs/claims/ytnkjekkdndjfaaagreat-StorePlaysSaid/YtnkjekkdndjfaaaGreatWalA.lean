
/- Chapter 7: a log of records on a disk: the program's. -/
import Derived.Test.YtnkjekkdndjfaaaGreatPdA
import Derived.Test.YtnkjekkdndjfaaaGreatFrA
namespace Go.Proofs.YtnkjekkdndjfaaaGreat
set_option linter.unusedVariables false
set_option linter.unusedSimpArgs false
open Go.RowKit
/-- bytes that are read stay, if no byte's block is turned -/
theorem RdB.mods {w w' : World} {M : Nat → Obj → Prop} {B n c : Nat} {A : Option Addr} {l : List UInt8} (h : RdB w B A n c l) (hB : B ≤ w.heap.size) (hm : Mod M w w')
    (hM : ∀ g o, w.heap[g]? = some o → M g o → ∀ (off : Nat) (b : Int), w.cell? ⟨g, off, none⟩ ≠ some (.int .u8 b)) : RdB w' w'.heap.size A n c l := by
  refine ⟨h.len, h.le, h.max, fun hc => ?_⟩
  obtain ⟨g, off, e, hg, hcell⟩ := h.cells hc
  refine ⟨g, off, e, Nat.lt_of_lt_of_le (Nat.lt_of_lt_of_le hg hB) hm.size, fun j u hu => ?_⟩
  have h1 := hcell j u hu
  obtain ⟨b, _, rfl⟩ := bys_get hu
  have hlt := World.block_lt_of_cell? w _ h1
  have ho := Array.getElem?_eq_getElem hlt
  have h2 := hm.block g _ ho (fun hq => hM g _ ho hq _ _ h1)
  rw [World.cell?_of_block (h2.trans ho.symm)]
  exact h1
theorem IsMf.no_cell {w : World} {b N : Nat} {l : List Fi} (h : IsMf w b N l) (off : Nat) : w.cell? ⟨b, off, none⟩ = none := by
  obtain ⟨D, ⟨es, clock, hb, r⟩, h2⟩ := h
  simp [World.cell?, hb]
theorem cell4 {w : World} {g : Nat} {t : TypeId} {a b c d : Value} (h : At w g t [a, b, c, d]) (off : Nat) (v : Value) (hv : v ≠ a ∧ v ≠ b ∧ v ≠ c ∧ v ≠ d) : w.cell? ⟨g, off, none⟩ ≠ some v := by
  rw [h.cell off]
  match off with
  | 0 => simpa using hv.1.symm
  | 1 => simpa using hv.2.1.symm
  | 2 => simpa using hv.2.2.1.symm
  | 3 => simpa using hv.2.2.2.symm
  | k + 4 => simp
theorem cell3 {w : World} {g : Nat} {t : TypeId} {a b c : Value} (h : At w g t [a, b, c]) (off : Nat) (v : Value) (hv : v ≠ a ∧ v ≠ b ∧ v ≠ c) : w.cell? ⟨g, off, none⟩ ≠ some v := by
  rw [h.cell off]
  match off with
  | 0 => simpa using hv.1.symm
  | 1 => simpa using hv.2.1.symm
  | 2 => simpa using hv.2.2.symm
  | k + 3 => simp
section
variable {w w' : World} {gd bd gr N B n c : Nat} {d : PD} {A : Option Addr} {l : List UInt8}
theorem IsD.rdb (h : IsD w gd bd N d) (hr : RdB w B A n c l) (hB : B ≤ w.heap.size) (hm : Mod (fun i _ => i = gd ∨ i = bd) w w') : RdB w' w'.heap.size A n c l := by
  obtain ⟨l0, h1, h2⟩ := h
  refine hr.mods hB hm fun g o ho hq off b => ?_
  rcases hq with rfl | rfl
  · exact cell4 h2.at_ off _ (by simp)
  · rw [h2.mp.no_cell off]; simp
theorem IsR.rdb (h : IsR w gr d) (hr : RdB w B A n c l) (hB : B ≤ w.heap.size) (hm : Mod (fun i _ => i = gr) w w') : RdB w' w'.heap.size A n c l := by
  obtain ⟨A', c', h1, h2⟩ := IsRf.ex h
  refine hr.mods hB hm fun g o ho hq off b => ?_
  subst hq
  exact cell3 h1 off _ (by simp)
/-- records that were told: the row is the call's own -/
def RecS (w : World) (base : Nat) (A : Option Addr) (n c : Nat) (ys : List Bsl) : Prop := w.ownsRow base 22 1 (.slice A n c) n (ys.map Bsl.val) ∧ ∀ y ∈ ys, RdB w w.heap.size y.A y.n y.c y.l
variable {base : Nat} {ys : List Bsl}
theorem RecS.of_own (h : OwnS w base A n c ys) (hb : base ≤ w.heap.size) : RecS w base A n c ys := ⟨h.1, fun y hy => (h.2 y hy).rd hb⟩
theorem RecS.rd (h : RecS w base A n c ys) : RdS w w.heap.size A n c ys := ⟨Rd.of_own h.1, h.2⟩
theorem RecS.step (h : RecS w base A n c ys) (hb : Below w.heap.size w w') : RecS w' base A n c ys := ⟨own_below h.1 hb, fun y hy => (h.2 y hy).step hb⟩
theorem RecS.dk (h : RecS w base A n c ys) (hd : IsD w gd bd N d) (hm : Mod (fun i _ => i = gd ∨ i = bd) w w') : RecS w' base A n c ys := ⟨own_mod h.1 hm (fun i o ho _ hit e => hd.free ho hit (by decide) e), fun y hy => hd.rdb (h.2 y hy) (Nat.le_refl _) hm⟩
theorem RecS.rf (h : RecS w base A n c ys) (hd : IsR w gr d) (hm : Mod (fun i _ => i = gr) w w') : RecS w' base A n c ys := by
  obtain ⟨A', c', h1, h2⟩ := IsRf.ex hd
  exact ⟨own_mod h.1 hm (fun i o ho _ hit e => isT_at h1 ho hit (by decide) e), fun y hy => hd.rdb (h.2 y hy) (Nat.le_refl _) hm⟩
theorem RecS.nil : RecS w base none 0 0 [] := ⟨World.ownsRow_nil _ _ _ _, by simp⟩
theorem RecS.lower {base' : Nat} (h : RecS w base A n c ys) (hb : base' ≤ base) : RecS w base' A n c ys := by
  obtain ⟨⟨h1, h2⟩, h3⟩ := h
  refine ⟨⟨h1, ?_⟩, h3⟩
  rcases h2 with h2 | ⟨g, cap, cur, e1, e2, e3⟩
  · exact .inl h2
  · exact .inr ⟨g, cap, cur, e1, Nat.le_trans hb e2, e3⟩
end
/-- the records, too, are the call's own -/
def RecO (w : World) (base : Nat) (A : Option Addr) (n c : Nat) (ys : List Bsl) : Prop := w.ownsRow base 22 1 (.slice A n c) n (ys.map Bsl.val) ∧ ∀ y ∈ ys, OwnB w base y.A y.n y.c y.l
theorem own_lower7 {w : World} {base base' s n : Nat} {e : TypeId} {v : Value} {xs : List Value} (h : w.ownsRow base e s v n xs) (hb : base' ≤ base) : w.ownsRow base' e s v n xs := by
  obtain ⟨h1, h2⟩ := h
  refine ⟨h1, ?_⟩
  rcases h2 with h2 | ⟨g, cap, cur, e1, e2, e3⟩
  · exact .inl h2
  · exact .inr ⟨g, cap, cur, e1, Nat.le_trans hb e2, e3⟩
theorem own_lt {w : World} {base s n : Nat} {e : TypeId} {v : Value} {xs : List Value} (h : w.ownsRow base e s v n xs) {i : Nat} (hi : v.ownBlock = some i) : i < w.heap.size := by
  rcases h.2 with ⟨hv, _⟩ | ⟨g, cap, cur, hv, e2, e3, _⟩
  · rw [hv] at hi; simp [Value.ownBlock] at hi
  · rw [hv] at hi
    simp [Value.ownBlock] at hi
    subst hi
    exact (Array.getElem?_eq_some_iff.1 e3).1
section
variable {w w' : World} {gd bd gr N base n c : Nat} {d : PD} {A : Option Addr} {ys : List Bsl}
theorem RecO.recs (h : RecO w base A n c ys) : RecS w base A n c ys := ⟨h.1, fun y hy => (h.2 y hy).rd⟩
theorem RecO.rd (h : RecO w base A n c ys) : RdS w w.heap.size A n c ys := h.recs.rd
theorem RecO.step (h : RecO w base A n c ys) (hb : Below w.heap.size w w') : RecO w' base A n c ys := ⟨own_below h.1 hb, fun y hy => (h.2 y hy).below hb⟩
theorem RecO.dk (h : RecO w base A n c ys) (hd : IsD w gd bd N d) (hm : Mod (fun i _ => i = gd ∨ i = bd) w w') : RecO w' base A n c ys := ⟨own_mod h.1 hm (fun i o ho _ hit e => hd.free ho hit (by decide) e), fun y hy => own_mod (show World.ownsRow _ _ _ _ _ _ _ from h.2 y hy) hm (fun i o ho _ hit e => hd.free ho hit (by decide) e)⟩
theorem RecO.rf (h : RecO w base A n c ys) (hd : IsR w gr d) (hm : Mod (fun i _ => i = gr) w w') : RecO w' base A n c ys := by
  obtain ⟨A', c', h1, h2⟩ := IsRf.ex hd
  exact ⟨own_mod h.1 hm (fun i o ho _ hit e => isT_at h1 ho hit (by decide) e), fun y hy => own_mod (show World.ownsRow _ _ _ _ _ _ _ from h.2 y hy) hm (fun i o ho _ hit e => isT_at h1 ho hit (by decide) e)⟩
theorem RecO.nil : RecO w base none 0 0 [] := ⟨World.ownsRow_nil _ _ _ _, by simp⟩
theorem RecO.lower {base' : Nat} (h : RecO w base A n c ys) (hb : base' ≤ base) : RecO w base' A n c ys := ⟨own_lower7 h.1 hb, fun y hy => (h.2 y hy).lower hb⟩
theorem RecO.apart (h : RecO w base A n c ys) {b2 s2 n2 : Nat} {v2 : Value} {xs2 : List Value} (hown : w.ownsRow b2 22 s2 v2 n2 xs2) (hlt : ∀ i, v2.ownBlock = some i → i < base) (hG : w.grownBy w' v2.ownBlock) : RecO w' base A n c ys :=
  ⟨own_mod h.1 (grown_mod hG) (fun i o _ hi _ e => absurd (hlt i e) (by omega)), fun y hy => own_mod (show World.ownsRow _ _ _ _ _ _ _ from h.2 y hy) (grown_mod hG) (fun i o ho _ hit e => absurd (isT_uniq (own_isT hown e ho).2 hit) (by decide))⟩
end
/-- a log's block -/
def IsLg (w : World) (gl gd : Nat) (nm : ByteArray) (sz : Int) (dead : Bool) : Prop := At w gl 136 [.pointer (some ⟨gd, 0, none⟩), .string nm, .int .i64 sz, .bool dead]
/-- a disk and a log on it, as data -/
structure WL where
  d : PD
  sz : Int
  dead : Bool
/-- a file has whole frames alone, and all of it is sure -/
def mendO (d : PD) (nm : ByteArray) (all good : Int) : Out := if good < all then d.cuO nm good else if d.su nm < all then d.syO nm else ⟨0, d.fs, d.lost, d.left⟩
def laO (d : PD) (nm : ByteArray) (p : List UInt8) : Out := if (d.apO nm (frameL p)).code = 0 then (d.out (d.apO nm (frameL p))).syO nm else d.apO nm (frameL p)
def waP (s : WL) (nm : ByteArray) (p : List UInt8) : Int × WL :=
  if s.dead then (12, s) else if p.length = 0 then (1, s) else
  ((laO s.d nm p).code, ⟨s.d.out (laO s.d nm p), if (laO s.d nm p).code = 0 then s.sz + (8 + p.length) else s.sz, !decide ((laO s.d nm p).code = 0)⟩)
def wcP (s : WL) (nm : ByteArray) : Int × WL :=
  if s.dead then (12, s) else
  if (s.d.cuO nm 0).code = 0 ∨ (s.d.cuO nm 0).code = 6 then (0, ⟨s.d.out (s.d.cuO nm 0), 0, false⟩) else ((s.d.cuO nm 0).code, ⟨s.d.out (s.d.cuO nm 0), s.sz, true⟩)
structure IsW (w : World) (gl gd bd N : Nat) (nm : ByteArray) (s : WL) : Prop where
  lg : IsLg w gl gd nm s.sz s.dead
  dk : IsD w gd bd N s.d
theorem dout_dout (d : PD) (a b : Out) : (d.out a).out b = d.out b := rfl
section
variable {gl gd bd N M K : Nat} {d : PD} {nm : ByteArray} {sz : Int} {dead : Bool}
theorem lg_keep {w w' : World} (h : IsLg w gl gd nm sz dead) (hd : IsD w gd bd N d) (hm : Mod (fun i _ => i = gd ∨ i = bd) w w') : IsLg w' gl gd nm sz dead := hm.at h (hd.freeAt h (by decide))
theorem lg_keepR {w w' : World} {gr : Nat} (h : IsLg w gl gd nm sz dead) (hr : IsR w gr d) (hm : Mod (fun i _ => i = gr) w w') : IsLg w' gl gd nm sz dead := hm.at h (hr.freeAt h (by decide))
theorem wdone_any (e : Int) (w : World) (h : IsLg w gl gd nm sz dead) :
    Calls Tryz.prog 88 #[.pointer (some ⟨gl, 0, none⟩), .int .i64 e] w fun x w' => x = .returned (.int .i64 e) ∧ IsLg w' gl gd nm sz (dead || !decide (e = 0)) ∧ w.grownBy w' (some gl) := by
  obtain ⟨⟨x0, x1, x2, x3⟩, xf0, xf1, xf2, xf3⟩ := at4 h
  by_cases he : e = 0
  · subst he
    have H := Lib.hid h
    clear h
    go_enter Tryz.func88, Tryz.ntmps88
    go_wp2_with fail
    go_ret
    exact ⟨rfl, by simpa using H.out, World.grownBy.refl w _⟩
  · have he2 : ¬ e = 0 := he
    obtain ⟨h1, hG⟩ := At.many [(3, .bool true)] h
    dsimp only [setMany, setL, List.set] at h1 hG
    have HG := Lib.hid hG
    have H1 := Lib.hid h1
    clear h hG h1
    go_enter Tryz.func88, Tryz.ntmps88
    go_wp2_with fail
    go_ret
    exact ⟨rfl, by rw [decide_eq_false he2, Bool.not_false, Bool.or_true]; exact H1.out, HG.out⟩
/-- mend -/
theorem mend_any (all : Nat) (good : Nat) (hk : nm.size ≤ maxLen) (w : World) (h : IsD w gd bd N d) (ho : d.Ok M K) (hM : M ≤ 100000000) (hN : N < 1000000) :
    Calls Tryz.prog 62 #[.pointer (some ⟨gd, 0, none⟩), .string nm, .int .i64 (all : Int), .int .i64 (good : Int)] w fun x w' => DP w w' gd bd N d (mendO d nm all good) x := by
  unfold mendO
  by_cases h1 : (good : Int) < (all : Int)
  · rw [if_pos h1]
    have hd1 : decide ((good : Int) < (all : Int)) = true := decide_eq_true h1
    have hd2 : good < all := by omega
    have HC := pd_cu nm good hk w h ho hM hN
    clear h1
    go_enter Tryz.func62, Tryz.ntmps62
    go_wp2_with (((with_reducible refine (HC).mono ?_); rintro z v ⟨rfl, hm, hd⟩))
    go_ret
    exact ⟨rfl, hm, hd⟩
  · rw [if_neg h1]
    have hd1 : decide ((good : Int) < (all : Int)) = false := decide_eq_false h1
    have hd2 : all ≤ good := by omega
    have HS := pd_su nm hk w h
    have HY := pd_sy nm hk w h hN
    have H := Lib.hid h
    clear h1 h
    obtain ⟨su, hsu⟩ : ∃ su, d.su nm = su := ⟨_, rfl⟩
    rw [hsu] at HS ⊢
    by_cases h2 : su < (all : Int)
    · rw [if_pos h2]
      have hd3 : decide (su < (all : Int)) = true := decide_eq_true h2
      go_enter Tryz.func62, Tryz.ntmps62
      go_wp2_with (first | (((with_reducible refine (HS).mono ?_); rintro z v ⟨rfl, rfl⟩)) | (((with_reducible refine (HY).mono ?_); rintro z v ⟨rfl, hm, hd⟩)))
      go_ret
      exact ⟨rfl, hm, hd⟩
    · rw [if_neg h2]
      have hd3 : decide (su < (all : Int)) = false := decide_eq_false h2
      go_enter Tryz.func62, Tryz.ntmps62
      go_wp2_with (((with_reducible refine (HS).mono ?_); rintro z v ⟨rfl, rfl⟩))
      go_ret
      exact ⟨rfl, Mod.refl _ _, H.out.more (Nat.le_succ _)⟩
/-- Clear -/
theorem lg_mod {w w' : World} {gl : Nat} (h : w.grownBy w' (some gl)) : Mod (fun i _ => i = gl ∨ i = gd ∨ i = bd) w w' := (mod_one h).mono fun i o _ _ e => .inl e
theorem lg_mod2 {w w' : World} {gl : Nat} (h : Mod (fun i _ => i = gd ∨ i = bd) w w') : Mod (fun i _ => i = gl ∨ i = gd ∨ i = bd) w w' := h.mono fun i o _ _ e => .inr e
theorem wclear_nil (w : World) : Calls Tryz.prog 48 #[.pointer none] w fun x w' => x = .returned (.int .i64 2) ∧ w = w' := by
  go_enter Tryz.func48, Tryz.ntmps48
  go_wp2_with fail
  go_ret
  exact ⟨rfl, rfl⟩
theorem wapp_nil (A : Option Addr) (n c : Nat) (w : World) : Calls Tryz.prog 73 #[.pointer none, .slice A n c] w fun x w' => x = .returned (.int .i64 2) ∧ w = w' := by
  go_enter Tryz.func73, Tryz.ntmps73
  go_wp2_with fail
  go_ret
  exact ⟨rfl, rfl⟩
def WP (w w' : World) (gl gd bd N : Nat) (nm : ByteArray) (o : Int × WL) (x : Ending) : Prop := x = .returned (.int .i64 o.1) ∧ Mod (fun i _ => i = gl ∨ i = gd ∨ i = bd) w w' ∧ IsW w' gl gd bd (N + 2) nm o.2
theorem wclear_any (s : WL) (hk : nm.size ≤ maxLen) (w : World) (h : IsW w gl gd bd N nm s) (ho : s.d.Ok M K) (hM : M ≤ 100000000) (hN : N < 1000000) :
    Calls Tryz.prog 48 #[.pointer (some ⟨gl, 0, none⟩)] w fun x w' => WP w w' gl gd bd N nm (wcP s nm) x := by
  obtain ⟨d, sz, dead⟩ := s
  obtain ⟨hl, hd⟩ := h
  simp only at hl hd ho
  unfold wcP
  simp only
  have h4 := hl
  obtain ⟨⟨x0, x1, x2, x3⟩, xf0, xf1, xf2, xf3⟩ := at4 hl
  cases dead with
  | true =>
    have HL := Lib.hid hl
    have HD := Lib.hid hd
    clear hl hd h4
    rw [if_pos rfl]
    go_enter Tryz.func48, Tryz.ntmps48
    go_wp2_with fail
    go_ret
    exact ⟨rfl, Mod.refl _ _, ⟨HL.out, HD.out.more (by omega)⟩⟩
  | false =>
    rw [if_neg Bool.false_ne_true]
    have HC := fun v (h : IsD v gd bd N d) => pd_cu nm 0 hk v h ho hM hN
    obtain ⟨o, hoo⟩ : ∃ o, d.cuO nm 0 = o := ⟨_, rfl⟩
    rw [hoo]
    simp only [hoo] at HC
    clear hoo
    go_enter Tryz.func48, Tryz.ntmps48
    go_upto_region 5 with fail
    refine region_any (by kernel_rfl) ?_
    change wpAny _ _ _ _ _ _ _ (World.drew _)
    have hm0 : Mod (fun i _ => i = gl ∨ i = gd ∨ i = bd) w w.drew := (Mod.refl _ w).drew
    replace hl : IsLg w.drew gl gd nm sz false := hl
    replace hd := hd.drew
    clear h4 x0 x1 x2 x3 xf0 xf1 xf2 xf3
    generalize World.drew _ = w1 at *
    obtain ⟨⟨x0, x1, x2, x3⟩, xf0, xf1, xf2, xf3⟩ := at4 hl
    have l4 := hl.lt
    refine stage 8 ?_
    refine tag [0,1,2,3,4,5,6,7] ?_
    iterate 8 (
      refine sR (v := ?_) rfl (by kernel_rfl) (fun _ _ _ h => h) (Or.inl ⟨by kernel_rfl, ?_⟩) ?_
      rotate_left
      · (intro wS hwS; obtain ⟨hcS, hfS, hhS⟩ := bcell hwS; go_simp; try (first | (with_reducible rfl) | rw [if_pos (by omega)] | rw [if_neg (by omega)]))
      try simp only [PT])
    refine tagN ?_
    refine stage_end (by kernel_rfl) rfl (fun K hK => ?_)
    go_simp
    refine (HC _ hd).mono ?_
    rintro z w2 ⟨rfl, hm2, hd2⟩
    refine hK.out _ _ ?_
    clear hK K
    try simp only [PT]
    first | refine stage 1000000 ?_ | skip
    refine tag [9] ?_
    refine sR (v := ?_) rfl (by kernel_rfl) (fun _ _ _ h => h) (Or.inl ⟨by kernel_rfl, ?_⟩) ?_
    rotate_left
    · (intro wS hwS; obtain ⟨hcS, hfS, hhS⟩ := bcell hwS; go_simp; try (first | (with_reducible rfl) | rw [if_pos (by omega)] | rw [if_neg (by omega)]))
    try simp only [PT]
    refine tagN ?_
    first | refine wpAnyT_done (by kernel_rfl) ?_ _ | refine wpAny_done (by kernel_rfl) ?_ _
    have hl2 := lg_keep hl hd hm2
    have HM := Lib.hid (hm0.trans (lg_mod2 (gl := gl) hm2))
    clear x0 x1 x2 x3 xf0 xf1 xf2 xf3 l4 hl hd hm0 hm2 HC
    obtain ⟨⟨x0, x1, x2, x3⟩, xf0, xf1, xf2, xf3⟩ := at4 hl2
    obtain ⟨oc, ocr, olo, olf⟩ := o
    simp only
    have H2 := Lib.hid hl2
    have HD2 := Lib.hid hd2
    clear hd2 ho
    by_cases ok : oc = 0 ∨ oc = 6
    · obtain ⟨h5, hG5⟩ := At.many [(2, .int .i64 0)] hl2
      dsimp only [setMany, setL, List.set] at h5 hG5
      have hd5 := HD2.out.other hl2 (by decide) (by decide) (mod_one hG5)
      have HM5 := Lib.hid (HM.out.trans (lg_mod hG5))
      have HDN := wdone_any 0 _ (show IsLg (w2.setCell ⟨gl, 2, none⟩ (.int .i64 0)) gl gd nm 0 false from h5)
      have HD5 := Lib.hid hd5
      clear hl2 hG5 hd5
      rcases ok with rfl | rfl
      · go_upto_region 10 with fail
        clear x0 x1 x2 x3 xf0 xf1 xf2 xf3 HM
        generalize World.setCell _ _ _ = w3 at *
        go_wp2_with (((with_reducible refine (HDN).mono ?_); rintro z w4 ⟨rfl, h6, hG6⟩))
        go_ret
        exact ⟨rfl, HM5.out.trans (lg_mod hG6), ⟨h6, (HD5.out.other h5 (by decide) (by decide) (mod_one hG6)).more (by omega)⟩⟩
      · go_upto_region 10 with fail
        clear x0 x1 x2 x3 xf0 xf1 xf2 xf3 HM
        generalize World.setCell _ _ _ = w3 at *
        go_wp2_with (((with_reducible refine (HDN).mono ?_); rintro z w4 ⟨rfl, h6, hG6⟩))
        go_ret
        exact ⟨rfl, HM5.out.trans (lg_mod hG6), ⟨h6, (HD5.out.other h5 (by decide) (by decide) (mod_one hG6)).more (by omega)⟩⟩
    · have OK := Lib.hid ok
      have ok0 : (oc == 0) = false := by simpa using (not_or.1 ok).1
      have ok6 : (oc == 6) = false := by simpa using (not_or.1 ok).2
      have ne0 : ¬ oc = 0 := (not_or.1 ok).1
      have HDN := wdone_any oc w2 hl2
      rw [decide_eq_false ne0] at HDN
      clear hl2 ok ne0 x0 x1 x2 x3 xf0 xf1 xf2 xf3
      go_wp2_with (((with_reducible refine (HDN).mono ?_); rintro z w3 ⟨rfl, h6, hG6⟩))
      go_ret
      exact ⟨rfl, HM.out.trans (lg_mod hG6), ⟨h6, (HD2.out.other H2.out (by decide) (by decide) (mod_one hG6)).more (by omega)⟩⟩
set_option maxRecDepth 100000 in
set_option maxHeartbeats 2000000 in
theorem wapp_any (s : WL) (hk : nm.size ≤ maxLen) (A : Option Addr) (n c : Nat) (p : List UInt8) (w : World) (h : IsW w gl gd bd N nm s) (ho : s.d.Ok M K) (hM : M ≤ 100000000) (hN : N < 900000) (hr : RdB w w.heap.size A n c p) (hn : n ≤ 1048576) (hsz : 0 ≤ s.sz ∧ s.sz ≤ 1099511627776) :
    Calls Tryz.prog 73 #[.pointer (some ⟨gl, 0, none⟩), .slice A n c] w fun x w' => WP w w' gl gd bd N nm (waP s nm p) x := by
  obtain ⟨d, sz, dead⟩ := s
  obtain ⟨hl, hd⟩ := h
  simp only at hl hd ho hsz
  have hpn := hr.length
  obtain ⟨⟨x0, x1, x2, x3⟩, xf0, xf1, xf2, xf3⟩ := at4 hl
  unfold waP
  simp only
  cases dead with
  | true =>
    have HL := Lib.hid hl
    have HD := Lib.hid hd
    clear hl hd
    rw [if_pos rfl]
    go_enter Tryz.func73, Tryz.ntmps73
    go_wp2_with fail
    go_ret
    exact ⟨rfl, Mod.refl _ _, ⟨HL.out, HD.out.more (by omega)⟩⟩
  | false =>
    rw [if_neg Bool.false_ne_true]
    by_cases hn0 : n = 0
    · subst hn0
      rw [if_pos hpn]
      have HL := Lib.hid hl
      have HD := Lib.hid hd
      have HF := fput_zero A c w
      clear hl hd
      go_enter Tryz.func73, Tryz.ntmps73
      go_wp2_with (((with_reducible refine (HF).mono ?_); rintro z v ⟨rfl, rfl⟩))
      go_ret
      exact ⟨rfl, Mod.refl _ _, ⟨HL.out, HD.out.more (by omega)⟩⟩
    · rw [if_neg (by omega)]
      have HPUT := fput_ok A n c p w hr (by omega) hn
      have HA := fun (A : Option Addr) (n c : Nat) (v : World) (h : IsD v gd bd N d) hr hn => pd_ap nm hk A n c (frameL p) v h ho hM hr hn (by omega)
      unfold laO
      obtain ⟨o1, ho1⟩ : ∃ o1, d.apO nm (frameL p) = o1 := ⟨_, rfl⟩
      have HS := fun (v : World) (h : IsD v gd bd (N + 1) (d.out o1)) => pd_sy nm hk v h (by omega)
      obtain ⟨o2, ho2⟩ : ∃ o2, (d.out o1).syO nm = o2 := ⟨_, rfl⟩
      simp only [ho1, ho2] at HA HS ⊢
      rw [hpn]
      clear ho1 ho2 ho
      go_enter Tryz.func73, Tryz.ntmps73
      go_upto_region 6 with (((with_reducible refine (HPUT).mono ?_); rintro z w1 ⟨A2, c2, rfl, hown, hb1⟩))
      have hm0 : Mod (fun i _ => i = gl ∨ i = gd ∨ i = bd) w w1 := (Mod.refl _ w).below hb1
      replace hl : IsLg w1 gl gd nm sz false := hl.step hb1
      replace hd := hd.step hb1
      have hrd := hown.rd
      clear hown hb1 HPUT x0 x1 x2 x3 xf0 xf1 xf2 xf3 hr
      obtain ⟨⟨x0, x1, x2, x3⟩, xf0, xf1, xf2, xf3⟩ := at4 hl
      go_upto_region 8 with fail
      refine region_any (by kernel_rfl) ?_
      change wpAny _ _ _ _ _ _ _ (World.drew _)
      replace hm0 := hm0.drew
      replace hl : IsLg _ gl gd nm sz false := At.drew hl
      replace hd := hd.drew
      replace hrd := hrd.step (Below.drew (Below.refl _ _))
      clear x0 x1 x2 x3 xf0 xf1 xf2 xf3
      generalize World.drew _ = w2 at *
      obtain ⟨⟨x0, x1, x2, x3⟩, xf0, xf1, xf2, xf3⟩ := at4 hl
      have l4 := hl.lt
      refine stage 9 ?_
      refine tag [0,1,2,3,4,5,6,7,8] ?_
      iterate 9 (
        refine sR (v := ?_) rfl (by kernel_rfl) (fun _ _ _ h => h) (Or.inl ⟨by kernel_rfl, ?_⟩) ?_
        rotate_left
        · (intro wS hwS; obtain ⟨hcS, hfS, hhS⟩ := bcell hwS; go_simp; try (first | (with_reducible rfl) | rw [if_pos (by omega)] | rw [if_neg (by omega)]))
        try simp only [PT])
      refine tagN ?_
      refine stage_end (by kernel_rfl) rfl (fun K hK => ?_)
      go_simp
      refine (HA _ _ _ _ hd (fun u hG => hd.rdb hrd (Nat.le_refl _) (grown_mod' hG)) (by omega)).mono ?_
      rintro z v3 ⟨rfl, hm2, hd2⟩
      refine hK.out _ _ ?_
      clear hK K
      try simp only [PT]
      first | refine stage 1000000 ?_ | skip
      refine tag [10] ?_
      refine sR (v := ?_) rfl (by kernel_rfl) (fun _ _ _ h => h) (Or.inl ⟨by kernel_rfl, ?_⟩) ?_
      rotate_left
      · (intro wS hwS; obtain ⟨hcS, hfS, hhS⟩ := bcell hwS; go_simp; try (first | (with_reducible rfl) | rw [if_pos (by omega)] | rw [if_neg (by omega)]))
      try simp only [PT]
      refine tagN ?_
      first | refine wpAnyT_done (by kernel_rfl) ?_ _ | refine wpAny_done (by kernel_rfl) ?_ _
      replace hl := lg_keep hl hd hm2
      replace hm0 := hm0.trans (lg_mod2 (gl := gl) hm2)
      clear x0 x1 x2 x3 xf0 xf1 xf2 xf3 l4 hd hm2 HA hrd
      replace hd := hd2
      clear hd2
      obtain ⟨⟨x0, x1, x2, x3⟩, xf0, xf1, xf2, xf3⟩ := at4 hl
      obtain ⟨oc, ocr, olo, olf⟩ := o1
      simp only at HS hd ⊢
      by_cases e1 : oc = 0
      · subst e1
        go_upto_region 10 with fail
        refine region_any (by kernel_rfl) ?_
        change wpAny _ _ _ _ _ _ _ (World.drew _)
        replace hm0 := hm0.drew
        replace hl : IsLg _ gl gd nm sz false := At.drew hl
        replace hd := hd.drew
        skip
        clear x0 x1 x2 x3 xf0 xf1 xf2 xf3
        generalize World.drew _ = w4 at *
        obtain ⟨⟨x0, x1, x2, x3⟩, xf0, xf1, xf2, xf3⟩ := at4 hl
        have l4 := hl.lt
        refine stage 8 ?_
        refine tag [0,1,2,3,4,5,6,7] ?_
        iterate 8 (
          refine sR (v := ?_) rfl (by kernel_rfl) (fun _ _ _ h => h) (Or.inl ⟨by kernel_rfl, ?_⟩) ?_
          rotate_left
          · (intro wS hwS; obtain ⟨hcS, hfS, hhS⟩ := bcell hwS; go_simp; try (first | (with_reducible rfl) | rw [if_pos (by omega)] | rw [if_neg (by omega)]))
          try simp only [PT])
        refine tagN ?_
        refine stage_end (by kernel_rfl) rfl (fun K hK => ?_)
        go_simp
        refine (HS _ hd).mono ?_
        rintro z v3 ⟨rfl, hm2, hd2⟩
        refine hK.out _ _ ?_
        clear hK K
        try simp only [PT]
        first | refine stage 1000000 ?_ | skip
        refine tag [9] ?_
        refine sR (v := ?_) rfl (by kernel_rfl) (fun _ _ _ h => h) (Or.inl ⟨by kernel_rfl, ?_⟩) ?_
        rotate_left
        · (intro wS hwS; obtain ⟨hcS, hfS, hhS⟩ := bcell hwS; go_simp; try (first | (with_reducible rfl) | rw [if_pos (by omega)] | rw [if_neg (by omega)]))
        try simp only [PT]
        refine tagN ?_
        first | refine wpAnyT_done (by kernel_rfl) ?_ _ | refine wpAny_done (by kernel_rfl) ?_ _
        replace hl := lg_keep hl hd hm2
        replace hm0 := hm0.trans (lg_mod2 (gl := gl) hm2)
        clear x0 x1 x2 x3 xf0 xf1 xf2 xf3 l4 hd hm2 HS
        replace hd := hd2
        clear hd2
        obtain ⟨⟨x0, x1, x2, x3⟩, xf0, xf1, xf2, xf3⟩ := at4 hl
        obtain ⟨pc, pcr, plo, plf⟩ := o2
        simp only at hd ⊢
        by_cases e2 : pc = 0
        · subst e2
          obtain ⟨h5, hG5⟩ := At.many [(2, .int .i64 (sz + (8 + (n : Int))))] hl
          dsimp only [setMany, setL, List.set] at h5 hG5
          have hd5 := hd.other hl (by decide) (by decide) (mod_one hG5)
          have HM5 := Lib.hid (hm0.trans (lg_mod hG5))
          have HDN := wdone_any 0 _ h5
          have HD5 := Lib.hid hd5
          have H5 := Lib.hid h5
          have hwr : IntKind.i64.wrap (sz + (8 + (n : Int))) = sz + (8 + (n : Int)) := IntWalk.i64_in _ (by omega)
          clear hl hm0 hG5 hd hd5
          go_upto_region 13 with fail
          clear x0 x1 x2 x3 xf0 xf1 xf2 xf3 hwr
          generalize World.setCell _ _ _ = w5 at *
          go_wp2_with (((with_reducible refine (HDN).mono ?_); rintro z w9 ⟨rfl, h6, hG6⟩))
          go_ret
          exact ⟨rfl, HM5.out.trans (lg_mod hG6), ⟨h6, (HD5.out.other H5.out (by decide) (by decide) (mod_one hG6))⟩⟩
        · have ne0 : ¬ pc = 0 := e2
          have ok0 : (pc == 0) = false := by simpa using e2
          have HDN := wdone_any pc _ hl
          rw [decide_eq_false ne0] at HDN
          have HL := Lib.hid hl
          have HD := Lib.hid hd
          have HM := Lib.hid hm0
          clear hl hd hm0 x0 x1 x2 x3 xf0 xf1 xf2 xf3
          go_wp2_with (((with_reducible refine (HDN).mono ?_); rintro z w9 ⟨rfl, h6, hG6⟩))
          go_ret
          exact ⟨rfl, HM.out.trans (lg_mod hG6), ⟨h6, (HD.out.other HL.out (by decide) (by decide) (mod_one hG6)).more (by omega)⟩⟩
      · have ne0 : ¬ oc = 0 := e1
        have ok0 : (oc == 0) = false := by simpa using e1
        have HDN := wdone_any oc _ hl
        rw [decide_eq_false ne0] at HDN
        have HL := Lib.hid hl
        have HD := Lib.hid hd
        have HM := Lib.hid hm0
        clear hl hd hm0 x0 x1 x2 x3 xf0 xf1 xf2 xf3
        go_wp2_with (((with_reducible refine (HDN).mono ?_); rintro z w9 ⟨rfl, h6, hG6⟩))
        go_ret
        exact ⟨rfl, HM.out.trans (lg_mod hG6), ⟨h6, (HD.out.other HL.out (by decide) (by decide) (mod_one hG6)).more (by omega)⟩⟩
end
end Go.Proofs.YtnkjekkdndjfaaaGreat
namespace Go.Proofs.YtnkjekkdndjfaaaGreat
set_option linter.unusedVariables false
set_option linter.unusedSimpArgs false
open Go.RowKit
theorem allR_le {b : List UInt8} {rs : List (List UInt8)} {a e : Nat} (h : AllR b rs a e) : a ≤ b.length := by
  induction h with
  | stop b e h he => exact Nat.zero_le _
  | step b p n rs a e h hr ih =>
    have h1 := next_le b
    rw [h] at h1
    rw [List.length_drop] at ih
    simp only at h1
    omega
def opO (d : PD) (nm : ByteArray) (at_ : Nat) : Out := mendO d nm ((d.rb nm).length : Nat) at_
def WOg (w w' : World) (gd bd N : Nat) (nm : ByteArray) (d : PD) (rc : Int) (rb : List UInt8) (x : Ending) : Prop :=
  (rc = 6 ∧ ∃ gl, x = .returned (.tuple #[.pointer (some ⟨gl, 0, none⟩), .slice none 0 0, .int .i64 0]) ∧ IsLg w' gl gd nm 0 false ∧ w.heap.size ≤ gl ∧ Below w.heap.size w w')
  ∨ (rc ≠ 6 ∧ rc ≠ 0 ∧ x = .returned (.tuple #[.pointer none, .slice none 0 0, .int .i64 rc]) ∧ Below w.heap.size w w')
  ∨ (rc = 0 ∧ ∃ rs at_ code, AllR rb rs at_ code ∧ Mod (fun i _ => i = gd ∨ i = bd) w w' ∧ IsD w' gd bd (N + 1) (d.out (mendO d nm (rb.length : Nat) at_)) ∧
      (((mendO d nm (rb.length : Nat) at_).code ≠ 0 ∧ x = .returned (.tuple #[.pointer none, .slice none 0 0, .int .i64 (mendO d nm (rb.length : Nat) at_).code])) ∨
       ((mendO d nm (rb.length : Nat) at_).code = 0 ∧ ∃ gl A c ys, rs = ys.map Bsl.l ∧ x = .returned (.tuple #[.pointer (some ⟨gl, 0, none⟩), .slice A ys.length c, .int .i64 0]) ∧ IsLg w' gl gd nm (at_ : Int) false ∧ w.heap.size ≤ gl ∧ RecO w' w.heap.size A ys.length c ys)))
def WO (w w' : World) (gd bd N : Nat) (nm : ByteArray) (d : PD) (x : Ending) : Prop := WOg w w' gd bd N nm d (d.rc nm) (d.rb nm) x
section
variable {gd bd N M K : Nat} {d : PD} {nm : ByteArray}
theorem wopen_empty (p : Option Addr) (hk : nm.size = 0) (w : World) : Calls Tryz.prog 36 #[.pointer p, .string nm] w fun x w' => x = .returned (.tuple #[.pointer none, .slice none 0 0, .int .i64 1]) ∧ w = w' := by
  have he := emptyS_iff nm
  rw [decide_eq_false (by omega)] at he
  go_enter Tryz.func36, Tryz.ntmps36
  go_wp2_with fail
  exact bodyPost_ret (v := .tuple #[.pointer none, .slice none 0 0, .int .i64 1]) (by simp [results, Tryz.results36, go_sem]) rfl ⟨rfl, rfl⟩
theorem wopen_nil (hk : 1 ≤ nm.size) (w : World) : Calls Tryz.prog 36 #[.pointer none, .string nm] w fun x w' => x = .returned (.tuple #[.pointer none, .slice none 0 0, .int .i64 2]) ∧ w = w' := by
  have he := emptyS_iff nm
  rw [decide_eq_true hk] at he
  go_enter Tryz.func36, Tryz.ntmps36
  go_wp2_with (((with_reducible refine ((dread_nil nm w)).mono ?_); rintro z v ⟨rfl, rfl⟩))
  exact bodyPost_ret (v := .tuple #[.pointer none, .slice none 0 0, .int .i64 2]) (by simp [results, Tryz.results36, go_sem]) rfl ⟨rfl, rfl⟩
set_option maxRecDepth 100000 in
set_option maxHeartbeats 2000000 in
theorem wopen_any (hk0 : 1 ≤ nm.size) (hk : nm.size ≤ maxLen) (w : World) (h : IsD w gd bd N d) (ho : d.Ok M K) (hM : M ≤ 1048576) (hN : N < 900000) :
    Calls Tryz.prog 36 #[.pointer (some ⟨gd, 0, none⟩), .string nm] w fun x w' => WO w w' gd bd N nm d x := by
  have he := emptyS_iff nm
  rw [decide_eq_true hk0] at he
  have HR := pd_rd nm hk w h ho (by omega)
  have hlen := ok_rb ho nm
  have HME := fun (v : World) (h : IsD v gd bd N d) (a b : Nat) => mend_any a b hk v h ho (by omega) (by omega)
  have H := Lib.hid h
  unfold WO
  obtain ⟨rc, hrc⟩ : ∃ rc, d.rc nm = rc := ⟨_, rfl⟩
  obtain ⟨rb, hrb⟩ : ∃ rb, d.rb nm = rb := ⟨_, rfl⟩
  rw [hrc, hrb] at HR ⊢
  rw [hrb] at hlen
  clear ho hrc hrb h
  go_enter Tryz.func36, Tryz.ntmps36
  go_upto_region 4 with (((with_reducible refine (HR).mono ?_); rintro z w1 ⟨A, n, c, rfl, hown, hb1⟩))
  obtain rfl : rb.length = n := hown.length
  have hrd := hown.rd
  have hd := H.out.step hb1
  have HB := Lib.hid hb1
  have hsz := hb1.size
  clear HR hown hb1
  by_cases h6 : rc = 6
  · subst h6
    obtain ⟨h5, hb5⟩ := one_at w1 136 [.pointer (some ⟨gd, 0, none⟩), .string nm, .int .i64 0, .bool false]
    have HB5 := Lib.hid (chain HB.out hb5)
    have H5 := Lib.hid h5
    clear hd hrd h5 hb5
    go_wp2_with fail
    exact bodyPost_ret (v := .tuple #[.pointer (some ⟨w1.heap.size, 0, none⟩), .slice none 0 0, .int .i64 0]) (by simp [results, Tryz.results36, go_sem]) rfl (by unfold WOg; exact .inl ⟨rfl, _, rfl, H5.out, hsz, HB5.out⟩)
  · have h6b : (rc == 6) = false := by simpa using h6
    by_cases h0 : rc = 0
    · subst h0
      have HF := fall_own A rb.length c rb w1 hrd (by omega)
      go_upto_region 9 with (((with_reducible refine (HF).mono ?_); rintro z w2 ⟨A2, c2, ys, at_, code, rfl, hall, hown, hb2, hel⟩))
      have HALL := Lib.hid hall
      have hd2 := hd.step hb2
      have HRS := Lib.hid (RecO.lower ⟨hown.1, hel⟩ hsz)
      have HB2 := Lib.hid (chain HB.out hb2)
      have HMD := HME w2 hd2 rb.length at_
      obtain ⟨o, ho⟩ : ∃ o, mendO d nm (rb.length : Nat) at_ = o := ⟨_, rfl⟩
      rw [ho] at HMD
      have HO := Lib.hid ho
      have HD2 := Lib.hid hd2
      clear hall hd2 hown hb2 hel HF HME hrd hd ho
      go_upto_region 10 with (((with_reducible refine (HMD).mono ?_); rintro z w3 ⟨rfl, hm3, hd3⟩))
      have HRS3 := Lib.hid (HRS.out.dk HD2.out hm3)
      have hm4 : Mod (fun i _ => i = gd ∨ i = bd) w w3 := ((Mod.refl _ w).below HB2.out).trans hm3
      have hsz3 := hm4.size
      by_cases hc : o.code = 0
      · obtain ⟨h5, hb5⟩ := one_at w3 136 [.pointer (some ⟨gd, 0, none⟩), .string nm, .int .i64 (at_ : Int), .bool false]
        have H5 := Lib.hid h5
        have HM5 := Lib.hid (hm4.below hb5)
        have HD5 := Lib.hid (hd3.step hb5)
        have HRS5 := Lib.hid (HRS3.out.step hb5)
        have hcb : (o.code == 0) = true := by simpa using hc
        clear hm3 hd3 hm4 h5 hb5 HMD
        go_wp2_with fail
        exact bodyPost_ret (v := .tuple #[.pointer (some ⟨w3.heap.size, 0, none⟩), .slice A2 ys.length c2, .int .i64 0]) (by simp [results, Tryz.results36, go_sem]) rfl (by unfold WOg; exact .inr (.inr ⟨rfl, _, at_, code, HALL.out, HM5.out, by rw [HO.out]; exact HD5.out, .inr ⟨by rw [HO.out]; exact hc, _, A2, c2, ys, rfl, rfl, H5.out, hsz3, HRS5.out⟩⟩))
      · have hcb : (o.code == 0) = false := by simpa using hc
        have HM3 := Lib.hid hm4
        have HD3 := Lib.hid hd3
        clear hm3 hd3 hm4 HMD
        go_wp2_with fail
        exact bodyPost_ret (v := .tuple #[.pointer none, .slice none 0 0, .int .i64 o.code]) (by simp [results, Tryz.results36, go_sem]) rfl (by unfold WOg; exact .inr (.inr ⟨rfl, _, at_, code, HALL.out, HM3.out, by rw [HO.out]; exact HD3.out, .inl ⟨by rw [HO.out]; exact hc, by rw [HO.out]⟩⟩))
    · have h0b : ¬ rc = 0 := h0
      clear hd hrd HME
      have H6 := Lib.hid h6
      have H0 := Lib.hid h0
      clear h6 h0
      go_wp2_with fail
      exact bodyPost_ret (v := .tuple #[.pointer none, .slice none 0 0, .int .i64 rc]) (by simp [results, Tryz.results36, go_sem]) rfl (by unfold WOg; exact .inr (.inl ⟨H6.out, H0.out, rfl, HB.out⟩))
end
end Go.Proofs.YtnkjekkdndjfaaaGreat
namespace Go.Proofs.YtnkjekkdndjfaaaGreat
set_option linter.unusedVariables false
set_option linter.unusedSimpArgs false
open Go.RowKit
def pd0 (lost armed : Bool) (left : Int) : PD := ⟨[], lost, armed, left⟩
def pd1 (nm : ByteArray) (b : List UInt8) (s : Int) (lost armed : Bool) (left : Int) : PD := ⟨[⟨nm, b, none, 0, 0, s⟩], lost, armed, left⟩
theorem wr_two (armed : Bool) (left : Int) : ((wrP false armed left).code = 0 ∧ (wrP false armed left).lost = false ∧ (armed = true → left ≠ 0)) ∨ (armed = true ∧ left = 0 ∧ (wrP false armed left).code = 12 ∧ (wrP false armed left).lost = true) := by
  unfold wrP
  cases armed
  · exact .inl ⟨rfl, rfl, fun h => by cases h⟩
  · by_cases h0 : left = 0
    · exact .inr ⟨rfl, h0, by simp [h0], by simp [h0]⟩
    · exact .inl ⟨by simp [h0], by simp [h0], fun _ => h0⟩
section
variable {nm : ByteArray} {b : List UInt8} {s : Int} {lost armed : Bool} {left : Int}
theorem ap_pd0 (hk : 1 ≤ nm.size) (y : List UInt8) : (pd0 false armed left).apO nm y = ⟨(wrP false armed left).code, [⟨nm, y, none, 0, 0, 0⟩], (wrP false armed left).lost, (wrP false armed left).left⟩ := by
  unfold PD.apO pd0 apO
  rw [if_neg (by omega), if_neg (by simp)]
  rfl
theorem ap_pd1 (hk : 1 ≤ nm.size) (y : List UInt8) : (pd1 nm b s false armed left).apO nm y = ⟨(wrP false armed left).code, [⟨nm, b ++ y, none, 0, 0, s⟩], (wrP false armed left).lost, (wrP false armed left).left⟩ := by
  unfold PD.apO pd1 apO
  rw [if_neg (by omega), if_neg (by simp), get_one _ nm rfl]
  congr 1
  exact put_one rfl
theorem sy_pd1 : (pd1 nm b s lost armed left).syO nm = ⟨(wrP lost armed left).code, [⟨nm, b, none, 0, 0, if (wrP lost armed left).code = 0 then (b.length : Int) else s⟩], (wrP lost armed left).lost, (wrP lost armed left).left⟩ := by
  unfold PD.syO pd1 syO goO
  rw [if_neg (by rw [find_one _ nm rfl]; simp), if_neg (by simp), get_one _ nm rfl]
  congr 1
  split
  · exact put_one rfl
  · rfl
theorem cu_pd1 (m : Nat) (hm : m ≤ b.length) : (pd1 nm b s lost armed left).cuO nm m = ⟨(wrP lost armed left).code, [if (wrP lost armed left).code = 0 then ⟨nm, b.take m, none, 0, 0, (m : Int)⟩ else ⟨nm, b, none, 0, 0, s⟩], (wrP lost armed left).lost, (wrP lost armed left).left⟩ := by
  unfold PD.cuO pd1 cuO
  rw [get_one _ nm rfl]
  unfold goO
  rw [if_neg (by rw [find_one _ nm rfl]; simp), if_neg (by simp; omega)]
  congr 1
  split
  · rw [show ((m : Int)).toNat = m by simp]; exact put_one rfl
  · rfl
theorem cr_pd0 (ks : List Nat) : (pd0 lost armed left).crash ks = pd0 false false 0 := rfl
theorem cr_pd1 (ks : List Nat) (hs : 0 ≤ s ∧ s ≤ b.length) : ∃ m : Nat, s ≤ (m : Int) ∧ m ≤ b.length ∧ (pd1 nm b s lost armed left).crash ks = pd1 nm (b.take m) m false false 0 := by
  have h1 : crashN ks 0 ⟨nm, b, none, 0, 0, s⟩ ≤ b.length := crashN_le (by show s.toNat ≤ b.length; omega)
  refine ⟨crashN ks 0 ⟨nm, b, none, 0, 0, s⟩, ?_, h1, rfl⟩
  unfold crashN
  show s ≤ ((s.toNat + _ : Nat) : Int)
  omega
theorem rc_pd0 : (pd0 lost armed left).rc nm = 6 := rfl
theorem rc_pd1 : (pd1 nm b s false armed left).rc nm = 0 := by unfold PD.rc pd1 rdCode; rw [find_one _ nm rfl]; rfl
theorem rb_pd1 : (pd1 nm b s false armed left).rb nm = b := by unfold PD.rb pd1 rdBytes; rw [find_one _ nm rfl, get_one _ nm rfl]; rfl
theorem su_pd1 : (pd1 nm b s lost armed left).su nm = s := by unfold PD.su pd1; rw [get_one _ nm rfl]
theorem out_pd1 {d : PD} (code : Int) (f : Fi) (hf : f.core = f) (hk : f.k = nm) (l : Bool) (lf : Int) : d.out ⟨code, [f], l, lf⟩ = pd1 nm f.b f.s l d.armed lf := by
  unfold PD.out pd1
  rw [← hk, ← show (⟨f.k, f.b, none, 0, 0, f.s⟩ : Fi) = f from hf]
/-- a record more: it is there and sure, or the disk is lost -/
theorem la_pd1 (hk : 1 ≤ nm.size) (p : List UInt8) : ∃ left', ((laO (pd1 nm b s false armed left) nm p).code = 0 ∧ (armed = true → left ≠ 0) ∧ (pd1 nm b s false armed left).out (laO (pd1 nm b s false armed left) nm p) = pd1 nm (b ++ frameL p) ((b ++ frameL p).length : Nat) false armed left') ∨
    ((laO (pd1 nm b s false armed left) nm p).code = 12 ∧ armed = true ∧ (pd1 nm b s false armed left).out (laO (pd1 nm b s false armed left) nm p) = pd1 nm (b ++ frameL p) s true armed left') := by
  unfold laO
  rw [ap_pd1 hk]
  rcases wr_two armed left with ⟨h1, h2, h3⟩ | ⟨h0, h1, h2, h3⟩
  · rw [h1, h2]
    simp only [if_true]
    have e : (pd1 nm b s false armed left).out ⟨0, [⟨nm, b ++ frameL p, none, 0, 0, s⟩], false, (wrP false armed left).left⟩ = pd1 nm (b ++ frameL p) s false armed (wrP false armed left).left := rfl
    rw [e, sy_pd1]
    rcases wr_two armed (wrP false armed left).left with ⟨k1, k2, k3⟩ | ⟨k0, k1, k2, k3⟩
    · rw [k1, k2]
      exact ⟨_, .inl ⟨rfl, h3, rfl⟩⟩
    · rw [k2, k3]
      exact ⟨_, .inr ⟨rfl, k0, rfl⟩⟩
  · rw [h2, h3]
    rw [if_neg (show ¬ ((12 : Int) = 0) by omega)]
    exact ⟨_, .inr ⟨rfl, h0, rfl⟩⟩
theorem la_pd0 (hk : 1 ≤ nm.size) (p : List UInt8) : ∃ left', ((laO (pd0 false armed left) nm p).code = 0 ∧ (armed = true → left ≠ 0) ∧ (pd0 false armed left).out (laO (pd0 false armed left) nm p) = pd1 nm (frameL p) ((frameL p).length : Nat) false armed left') ∨
    ((laO (pd0 false armed left) nm p).code = 12 ∧ armed = true ∧ (pd0 false armed left).out (laO (pd0 false armed left) nm p) = pd1 nm (frameL p) 0 true armed left') := by
  unfold laO
  rw [ap_pd0 hk]
  rcases wr_two armed left with ⟨h1, h2, h3⟩ | ⟨h0, h1, h2, h3⟩
  · rw [h1, h2]
    simp only [if_true]
    have e : (pd0 false armed left).out ⟨0, [⟨nm, frameL p, none, 0, 0, 0⟩], false, (wrP false armed left).left⟩ = pd1 nm (frameL p) 0 false armed (wrP false armed left).left := rfl
    rw [e, sy_pd1]
    rcases wr_two armed (wrP false armed left).left with ⟨k1, k2, k3⟩ | ⟨k0, k1, k2, k3⟩
    · rw [k1, k2]
      exact ⟨_, .inl ⟨rfl, h3, rfl⟩⟩
    · rw [k2, k3]
      exact ⟨_, .inr ⟨rfl, k0, rfl⟩⟩
  · rw [h2, h3]
    rw [if_neg (show ¬ ((12 : Int) = 0) by omega)]
    exact ⟨_, .inr ⟨rfl, h0, rfl⟩⟩
/-- opened: what is not whole is cut off -/
theorem mend_pd1 (at_ : Nat) (ha : at_ ≤ b.length) (hs : 0 ≤ s ∧ s ≤ b.length) : (mendO (pd1 nm b s false false 0) nm (b.length : Nat) at_).code = 0 ∧ (pd1 nm b s false false 0).out (mendO (pd1 nm b s false false 0) nm (b.length : Nat) at_) = pd1 nm (b.take at_) at_ false false 0 := by
  unfold mendO
  split
  · rw [cu_pd1 at_ ha]
    exact ⟨rfl, rfl⟩
  · obtain rfl : at_ = b.length := by omega
    rw [List.take_length]
    split
    · rw [sy_pd1]
      exact ⟨rfl, rfl⟩
    · rename_i h1 h2
      rw [su_pd1] at h2
      obtain rfl : s = (b.length : Int) := by omega
      exact ⟨rfl, rfl⟩
end
end Go.Proofs.YtnkjekkdndjfaaaGreat
namespace Go.Proofs.YtnkjekkdndjfaaaGreat
set_option linter.unusedVariables false
set_option linter.unusedSimpArgs false
open Go.RowKit
section
variable {w w' : World} {gd bd N : Nat} {nm : ByteArray} {b : List UInt8} {s : Int} {x : Ending} {lost armed : Bool} {left : Int}
theorem wo_pd0 (h : WO w w' gd bd N nm (pd0 lost armed left) x) : ∃ gl, x = .returned (.tuple #[.pointer (some ⟨gl, 0, none⟩), .slice none 0 0, .int .i64 0]) ∧ IsLg w' gl gd nm 0 false ∧ w.heap.size ≤ gl ∧ Below w.heap.size w w' := by
  unfold WO WOg at h
  rw [rc_pd0] at h
  rcases h with h | h | h
  · exact h.2
  · exact absurd rfl h.1
  · exact absurd h.1 (by omega)
theorem wo_pd1 {rs : List (List UInt8)} {at_ code : Nat} (ha : AllR b rs at_ code) (hs : 0 ≤ s ∧ s ≤ b.length) (h : WO w w' gd bd N nm (pd1 nm b s false false 0) x) :
    ∃ gl A c ys, rs = ys.map Bsl.l ∧ x = .returned (.tuple #[.pointer (some ⟨gl, 0, none⟩), .slice A ys.length c, .int .i64 0]) ∧ IsLg w' gl gd nm (at_ : Int) false ∧ w.heap.size ≤ gl ∧ RecO w' w.heap.size A ys.length c ys ∧ Mod (fun i _ => i = gd ∨ i = bd) w w' ∧ IsD w' gd bd (N + 1) (pd1 nm (b.take at_) at_ false false 0) := by
  unfold WO WOg at h
  rw [rc_pd1, rb_pd1] at h
  rcases h with h | h | ⟨_, rs', at', code', ha', hm, hd, h⟩
  · exact absurd h.1 (by omega)
  · exact absurd rfl h.2.1
  · obtain ⟨rfl, rfl, rfl⟩ := ha.det ha'
    obtain ⟨h1, h2⟩ := mend_pd1 (nm := nm) at_ (allR_le ha) hs
    rw [h2] at hd
    rcases h with ⟨h, _⟩ | ⟨_, gl, A, c, ys, e1, e2, e3, e4, e5⟩
    · exact absurd h1 h
    · exact ⟨gl, A, c, ys, e1, e2, e3, e4, e5, hm, hd⟩
end
theorem ok_pd0 {lost armed : Bool} {left : Int} (hl : 0 ≤ left ∧ left < 9223372036854775808) : (pd0 lost armed left).Ok 0 0 := ⟨by unfold AscF pd0; simp, (fun x hx => by cases hx), Nat.le_refl _, hl, (fun x hx => by cases hx), rfl⟩
theorem ok_pd1 {nm : ByteArray} {b : List UInt8} {s : Int} {lost armed : Bool} {left : Int} (hk : nm.size ≤ maxLen) (hs : 0 ≤ s ∧ s ≤ b.length) (hl : 0 ≤ left ∧ left < 9223372036854775808) : (pd1 nm b s lost armed left).Ok b.length 1 :=
  ⟨by unfold AscF pd1; simp, (fun x hx => by simp [pd1] at hx; subst hx; exact ⟨Nat.le_refl _, hk⟩), Nat.le_refl _, hl, (fun x hx => by simp [pd1] at hx; subst hx; exact hs), rfl⟩
theorem IsD.left0 {w : World} {gd bd N : Nat} {d : PD} (h : IsD w gd bd N d) : 0 ≤ d.left ∧ d.left < 9223372036854775808 := by obtain ⟨l, h1, h2⟩ := h; exact h2.left0
abbrev wF : ByteArray := ⟨#[119]⟩
theorem wF_hi : wF.size ≤ maxLen := by show (1 : Nat) ≤ maxLen; simp only [maxLen]; omega
theorem wF_lo : 1 ≤ wF.size := Nat.le_refl 1
theorem waP_go {d : PD} {sz : Int} {nm : ByteArray} {p : List UInt8} (hp : p.length ≠ 0) : waP ⟨d, sz, false⟩ nm p = ((laO d nm p).code, ⟨d.out (laO d nm p), if (laO d nm p).code = 0 then sz + (8 + p.length) else sz, !decide ((laO d nm p).code = 0)⟩) := by
  unfold waP
  simp only [Bool.false_eq_true, if_false]
  rw [if_neg hp]
theorem mod3w {w w' : World} {B gl gd bd : Nat} (hm : Mod (fun i _ => i = gl ∨ i = gd ∨ i = bd) w w') (h1 : B ≤ gl) (h2 : B ≤ gd) (h3 : B ≤ bd) (hB : B ≤ w.heap.size) : Below B w w' :=
  hm.toBelow (fun i o hi e => by rcases e with e | e | e <;> omega) hB
theorem mod2w {w w' : World} {B gd bd : Nat} (hm : Mod (fun i _ => i = gd ∨ i = bd) w w') (h2 : B ≤ gd) (h3 : B ≤ bd) (hB : B ≤ w.heap.size) : Below B w w' :=
  hm.toBelow (fun i o hi e => by rcases e with e | e <;> omega) hB
theorem torn7 : AllR ((framesL [[97, 98, 99], [100, 101, 102, 103, 104]]).take 20) [[97, 98, 99]] 11 4 := all_torn [[97, 98, 99], [100, 101, 102, 103, 104]] 20 (by simp) (by simp [framesL, frameL_length])
theorem wopen_pd0 {gd bd N : Nat} {lost armed : Bool} {left : Int} (hl : 0 ≤ left ∧ left < 9223372036854775808) (w : World) (h : IsD w gd bd N (pd0 lost armed left)) (hN : N < 900000) :
    Calls Tryz.prog 36 #[.pointer (some ⟨gd, 0, none⟩), .string wF] w fun x w' => ∃ gl, x = .returned (.tuple #[.pointer (some ⟨gl, 0, none⟩), .slice none 0 0, .int .i64 0]) ∧ IsLg w' gl gd wF 0 false ∧ w.heap.size ≤ gl ∧ Below w.heap.size w w' :=
  (wopen_any wF_lo wF_hi w h (ok_pd0 hl) (by omega) hN).mono fun x w' h => wo_pd0 h
theorem wopen_pd1 {gd bd N : Nat} {b : List UInt8} {s : Int} {rs : List (List UInt8)} {at_ code : Nat} (ha : AllR b rs at_ code) (hs : 0 ≤ s ∧ s ≤ b.length) (hb : b.length ≤ 1048576) (w : World) (h : IsD w gd bd N (pd1 wF b s false false 0)) (hN : N < 900000) :
    Calls Tryz.prog 36 #[.pointer (some ⟨gd, 0, none⟩), .string wF] w fun x w' => ∃ gl A c ys, rs = ys.map Bsl.l ∧ x = .returned (.tuple #[.pointer (some ⟨gl, 0, none⟩), .slice A ys.length c, .int .i64 0]) ∧ IsLg w' gl gd wF (at_ : Int) false ∧ w.heap.size ≤ gl ∧ RecO w' w.heap.size A ys.length c ys ∧ Mod (fun i _ => i = gd ∨ i = bd) w w' ∧ IsD w' gd bd (N + 1) (pd1 wF (b.take at_) at_ false false 0) :=
  (wopen_any wF_lo wF_hi w h (ok_pd1 wF_hi hs (by omega)) hb hN).mono fun x w' h => wo_pd1 ha hs h
end Go.Proofs.YtnkjekkdndjfaaaGreat
