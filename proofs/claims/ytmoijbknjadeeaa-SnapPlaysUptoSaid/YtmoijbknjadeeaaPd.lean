
/- Chapter 6 for the chapters above: a disk as plain data; both sides' operations as functions of it. -/
import Derived.Test.YtmoijbknjadeeaaDkStep
namespace Go.Proofs.Ytmoijbknjadeeaa
set_option linter.unusedVariables false
set_option linter.unusedSimpArgs false
open Go.RowKit
theorem findF_core : ∀ (l : List Fi) (k : ByteArray), findF (l.map Fi.core) k = (findF l k).map Fi.core
  | [], k => rfl
  | x :: l, k => by
    rw [List.map_cons, findF_cons, findF_cons, findF_core l k]
    show (if x.k = k then some x.core else _) = _
    split <;> rfl
theorem getF_core (l : List Fi) (k : ByteArray) : getF (l.map Fi.core) k = (getF l k).core := by
  unfold getF
  rw [findF_core]
  cases findF l k <;> rfl
theorem applyF_core (e : Fi) : ∀ (d : Bool) (l : List Fi), (applyF e d l).map Fi.core = applyF e.core d (l.map Fi.core)
  | d, [] => by cases d <;> rfl
  | d, c :: l => by
    rw [List.map_cons, applyF_cons, applyF_cons, List.map_append, List.map_append, applyF_core e _ l]
    show _ = ((if !d && kless e.k c.k then [e.core] else []) ++ (if c.k = e.k then [] else [c.core])) ++ applyF e.core (d || kless e.k c.k) (l.map Fi.core)
    congr 2
    · split <;> rfl
    · split <;> rfl
theorem withoutF_core (l : List Fi) (k : ByteArray) : (withoutF l k).map Fi.core = withoutF (l.map Fi.core) k := by
  unfold withoutF
  rw [List.filter_map]
  rfl
theorem crashF_core (ks : List Nat) : ∀ (i : Nat) (l : List Fi), crashF ks i (l.map Fi.core) = crashF ks i l
  | i, [] => rfl
  | i, x :: l => by rw [List.map_cons, crashF, crashF, crashF_core ks (i + 1) l]; rfl
theorem crashF_cored (ks : List Nat) : ∀ (i : Nat) (l : List Fi), (crashF ks i l).map Fi.core = crashF ks i l
  | i, [] => rfl
  | i, x :: l => by rw [crashF, List.map_cons, crashF_cored ks (i + 1) l]; rfl
def Out.cor (o : Out) : Out := ⟨o.code, o.core.map Fi.core, o.lost, o.left⟩
section
variable {lost armed : Bool} {left : Int}
theorem apO_core (k : ByteArray) (b : List UInt8) (l : List Fi) : (apO k b l lost armed left).cor = apO k b (l.map Fi.core) lost armed left := by
  unfold apO
  split
  · rfl
  · unfold Out.cor
    simp only
    rw [getF_core]
    congr 1
    split
    · rfl
    · rw [applyF_core]; rfl
theorem goO_core (l : List Fi) (k : ByteArray) (bad : Bool) (new : List Fi) : (goO l k lost armed left bad new).cor = goO (l.map Fi.core) k lost armed left bad (new.map Fi.core) := by
  unfold goO
  have e : (findF (l.map Fi.core) k).isSome = (findF l k).isSome := by rw [findF_core]; cases findF l k <;> rfl
  rw [e]
  split
  · rfl
  · split
    · rfl
    · unfold Out.cor
      simp only
      congr 1
      split <;> rfl
theorem syO_core (k : ByteArray) (l : List Fi) : (syO k l lost armed left).cor = syO k (l.map Fi.core) lost armed left := by
  unfold syO; rw [goO_core, applyF_core, getF_core]; rfl
theorem rmO_core (k : ByteArray) (l : List Fi) : (rmO k l lost armed left).cor = rmO k (l.map Fi.core) lost armed left := by
  unfold rmO; rw [goO_core, withoutF_core]
theorem cuO_core (k : ByteArray) (m : Int) (l : List Fi) : (cuO k m l lost armed left).cor = cuO k m (l.map Fi.core) lost armed left := by
  unfold cuO; rw [goO_core, applyF_core, getF_core]; rfl
theorem reO_core (k to : ByteArray) (l : List Fi) : (reO k to l lost armed left).cor = reO k to (l.map Fi.core) lost armed left := by
  unfold reO; rw [goO_core, applyF_core, withoutF_core, getF_core]; rfl
end
/-- a disk as data; each file without where its bytes lie -/
structure PD where
  fs : List Fi
  lost : Bool
  armed : Bool
  left : Int
def PD.new : PD := ⟨[], false, false, 0⟩
def PD.out (d : PD) (o : Out) : PD := ⟨o.core, o.lost, d.armed, o.left⟩
def PD.apO (d : PD) (k : ByteArray) (b : List UInt8) : Out := Proofs.Ytmoijbknjadeeaa.apO k b d.fs d.lost d.armed d.left
def PD.syO (d : PD) (k : ByteArray) : Out := Proofs.Ytmoijbknjadeeaa.syO k d.fs d.lost d.armed d.left
def PD.rmO (d : PD) (k : ByteArray) : Out := Proofs.Ytmoijbknjadeeaa.rmO k d.fs d.lost d.armed d.left
def PD.cuO (d : PD) (k : ByteArray) (m : Int) : Out := Proofs.Ytmoijbknjadeeaa.cuO k m d.fs d.lost d.armed d.left
def PD.reO (d : PD) (k to : ByteArray) : Out := Proofs.Ytmoijbknjadeeaa.reO k to d.fs d.lost d.armed d.left
def PD.arm (d : PD) (n : Int) : PD := ⟨d.fs, d.lost, true, if n < 0 then 0 else n⟩
def PD.crash (d : PD) (ks : List Nat) : PD := ⟨crashF ks 0 d.fs, false, false, 0⟩
def PD.rc (d : PD) (k : ByteArray) : Int := rdCode d.fs d.lost k
def PD.rb (d : PD) (k : ByteArray) : List UInt8 := rdBytes d.fs d.lost k
def PD.su (d : PD) (k : ByteArray) : Int := (getF d.fs k).s
/-- the program's disk -/
def IsD (w : World) (gd bd N : Nat) (d : PD) : Prop := ∃ l, l.map Fi.core = d.fs ∧ IsDk w gd bd N l d.lost d.armed d.left
/-- the document's -/
def IsR (w : World) (gr : Nat) (d : PD) : Prop := IsRf w gr d.fs d.lost (rl d.armed d.left)
/-- what holds of a disk as data -/
structure PD.Ok (d : PD) (M K : Nat) : Prop where
  asc : AscF d.fs
  sm : Bd M d.fs
  len : d.fs.length ≤ K
  left0 : 0 ≤ d.left ∧ d.left < 9223372036854775808
  sure : ∀ x ∈ d.fs, 0 ≤ x.s ∧ x.s ≤ x.b.length
  cor : d.fs.map Fi.core = d.fs
theorem PD.Ok.mono {d : PD} {M K M' K' : Nat} (h : d.Ok M K) (hM : M ≤ M') (hK : K ≤ K') : d.Ok M' K' := ⟨h.asc, h.sm.mono hM, Nat.le_trans h.len hK, h.left0, h.sure, h.cor⟩
theorem PD.Ok.new : PD.new.Ok 0 0 := ⟨by unfold AscF PD.new; simp, (fun x hx => by cases hx), Nat.le_refl _, ⟨by simp [PD.new], by simp [PD.new]⟩, (fun x hx => by cases hx), rfl⟩
theorem asc_core {l : List Fi} (h : AscF l) : AscF (l.map Fi.core) := by
  unfold AscF at *
  rw [List.pairwise_map]
  exact h
theorem core_core (x : Fi) : x.core.core = x.core := rfl
theorem map_core_core (l : List Fi) : (l.map Fi.core).map Fi.core = l.map Fi.core := by rw [List.map_map]; rfl
section
variable {w w' : World} {gd bd gr N M K : Nat} {d : PD}
theorem IsD.step (h : IsD w gd bd N d) (hb : Below w.heap.size w w') : IsD w' gd bd N d := by obtain ⟨l, h1, h2⟩ := h; exact ⟨l, h1, h2.step hb⟩
theorem IsD.drew (h : IsD w gd bd N d) : IsD w.drew gd bd N d := by obtain ⟨l, h1, h2⟩ := h; exact ⟨l, h1, h2.drew⟩
theorem IsD.more {N' : Nat} (h : IsD w gd bd N d) (hN : N ≤ N') : IsD w gd bd N' d := by obtain ⟨l, h1, h2⟩ := h; exact ⟨l, h1, h2.more hN⟩
theorem IsD.lt (h : IsD w gd bd N d) : gd < w.heap.size ∧ bd < w.heap.size := by obtain ⟨l, h1, h2⟩ := h; exact h2.lt
theorem IsD.free (h : IsD w gd bd N d) {i : Nat} {o : Obj} {t : TypeId} (ho : w.heap[i]? = some o) (hit : IsT t o) (ht : t ≠ 90) : ¬ (i = gd ∨ i = bd) := by obtain ⟨l, h1, h2⟩ := h; exact h2.free ho hit ht
theorem IsD.freeAt (h : IsD w gd bd N d) {i : Nat} {cs : List Value} {t : TypeId} (hx : At w i t cs) (ht : t ≠ 90) : ¬ (i = gd ∨ i = bd) := by obtain ⟨l, h1, h2⟩ := h; exact h2.freeAt hx ht
theorem IsR.step (h : IsR w gr d) (hb : Below w.heap.size w w') : IsR w' gr d := IsRf.step h hb
theorem IsR.drew (h : IsR w gr d) : IsR w.drew gr d := IsRf.drew h
theorem IsR.freeAt (h : IsR w gr d) {i : Nat} {cs : List Value} {t : TypeId} (hx : At w i t cs) (ht : t ≠ 48) : ¬ i = gr := IsRf.freeAt h hx ht
theorem IsR.keep {d' : PD} (h : IsR w gr d) (hd : IsD w gd bd N d') (hm : Mod (fun i _ => i = gd ∨ i = bd) w w') : IsR w' gr d := by obtain ⟨l, h1, h2⟩ := hd; exact IsRf.keep h h2 hm
theorem IsD.keep {d' : PD} (h : IsD w gd bd N d) (hr : IsR w gr d') (hm : Mod (fun i _ => i = gr) w w') : IsD w' gd bd N d := by obtain ⟨l, h1, h2⟩ := h; exact ⟨l, h1, h2.keep hr hm⟩
/-- another block is turned -/
theorem IsD.other (h : IsD w gd bd N d) {g : Nat} {t : TypeId} {cs : List Value} (hx : At w g t cs) (ht : t ≠ 90) (ht2 : t ≠ 5) (hm : Mod (fun i _ => i = g) w w') : IsD w' gd bd N d := by
  obtain ⟨l, h1, h2⟩ := h
  have hgn := h2.freeAt hx ht
  exact ⟨l, h1, hm.at h2.at_ (fun e => hgn (.inl e.symm)), h2.mp.mod hm (fun _ _ e => hgn (.inr e.symm)), fun x hq => ⟨own_mod (show World.ownsRow _ _ _ _ _ _ _ from (h2.own x hq).1) hm (fun i o ho _ hit e => isT_at hx ho hit (fun e => ht2 e.symm) e), (h2.own x hq).2⟩, h2.ne, h2.left0⟩
theorem IsR.other (h : IsR w gr d) {g : Nat} {t : TypeId} {cs : List Value} (hx : At w g t cs) (ht : t ≠ 48) (ht2 : t ≠ 52) (hm : Mod (fun i _ => i = g) w w') : IsR w' gr d := by
  have hgr := h.freeAt hx ht
  obtain ⟨A, c, h1, h2⟩ := IsRf.ex h
  exact ⟨A, c, hm.at h1 (fun e => hgr e.symm), own_mod h2 hm (fun i o ho _ hit e => isT_at hx ho hit (fun e => ht2 e.symm) e)⟩
def DP (w w' : World) (gd bd N : Nat) (d : PD) (o : Out) (x : Ending) : Prop := x = .returned (.int .i64 o.code) ∧ Mod (fun i _ => i = gd ∨ i = bd) w w' ∧ IsD w' gd bd (N + 1) (d.out o)
def DR (w w' : World) (gr : Nat) (d : PD) (o : Out) (x : Ending) : Prop := x = .returned (.int .i64 o.code) ∧ Mod (fun i _ => i = gr) w w' ∧ IsR w' gr (d.out o)
theorem dp_of {o o' : Out} (e : o.cor = o') {x : Ending} (h : PR w w' gd bd N d.armed o.code o.core o.lost o.left x) : DP w w' gd bd N d o' x := by
  subst e
  obtain ⟨rfl, hm, l', hl', hd⟩ := h
  exact ⟨rfl, hm, l', rows_core hl', hd⟩
theorem dr_of {o : Out} {x : Ending} (h : RR w w' gr d.armed o.code o.core o.lost o.left x) : DR w w' gr d o x := h
theorem rows_len {a b : List Fi} (h : a.map Fi.core = b) : a.length = b.length := by rw [← h, List.length_map]
theorem pd_bd {l : List Fi} (h : l.map Fi.core = d.fs) (ho : d.Ok M K) : Bd M l := bd_core (h.trans ho.cor.symm) ho.sm
theorem pd_ap (k : ByteArray) (hkm : k.size ≤ maxLen) (A : Option Addr) (n c : Nat) (y : List UInt8) (w : World) (h : IsD w gd bd N d) (ho : d.Ok M K) (hM : M ≤ 100000000) (hr : ∀ v, w.grownBy v (some gd) → RdB v v.heap.size A n c y) (hn : n ≤ 100000000) (hN : N < 1000000) :
    Calls Try.prog 16 #[.pointer (some ⟨gd, 0, none⟩), .string k, .slice A n c] w fun x w' => DP w w' gd bd N d (d.apO k y) x := by
  obtain ⟨l, h1, h2⟩ := h
  exact (papp k hkm A n c y w h2 hr hn hN (fun x hx => Nat.le_trans (pd_bd h1 ho x hx).1 hM)).mono fun x w' hp => dp_of (by rw [apO_core, h1]; rfl) hp
theorem pd_sy (k : ByteArray) (hkm : k.size ≤ maxLen) (w : World) (h : IsD w gd bd N d) (hN : N < 1000000) :
    Calls Try.prog 18 #[.pointer (some ⟨gd, 0, none⟩), .string k] w fun x w' => DP w w' gd bd N d (d.syO k) x := by
  obtain ⟨l, h1, h2⟩ := h
  exact (psync k hkm w h2 hN).mono fun x w' hp => dp_of (by rw [syO_core, h1]; rfl) hp
theorem pd_rm (k : ByteArray) (hkm : k.size ≤ maxLen) (w : World) (h : IsD w gd bd N d) :
    Calls Try.prog 29 #[.pointer (some ⟨gd, 0, none⟩), .string k] w fun x w' => DP w w' gd bd N d (d.rmO k) x := by
  obtain ⟨l, h1, h2⟩ := h
  exact (premove k hkm w h2).mono fun x w' hp => dp_of (by rw [rmO_core, h1]; rfl) hp
theorem pd_cu (k : ByteArray) (m : Int) (hkm : k.size ≤ maxLen) (w : World) (h : IsD w gd bd N d) (ho : d.Ok M K) (hM : M ≤ 100000000) (hN : N < 1000000) :
    Calls Try.prog 30 #[.pointer (some ⟨gd, 0, none⟩), .string k, .int .i64 m] w fun x w' => DP w w' gd bd N d (d.cuO k m) x := by
  obtain ⟨l, h1, h2⟩ := h
  exact (pcut k m hkm w h2 hN (Nat.le_trans (get_bd (pd_bd h1 ho) k) hM)).mono fun x w' hp => dp_of (by rw [cuO_core, h1]; rfl) hp
theorem pd_re (k to : ByteArray) (hkm : k.size ≤ maxLen) (htm : to.size ≤ maxLen) (w : World) (h : IsD w gd bd N d) (hN : N < 1000000) :
    Calls Try.prog 28 #[.pointer (some ⟨gd, 0, none⟩), .string k, .string to] w fun x w' => DP w w' gd bd N d (d.reO k to) x := by
  obtain ⟨l, h1, h2⟩ := h
  exact (prename k to hkm htm w h2 hN).mono fun x w' hp => dp_of (by rw [reO_core, h1]; rfl) hp
theorem pd_arm (n : Int) (hn : n < 9223372036854775808) (w : World) (h : IsD w gd bd N d) :
    Calls Try.prog 15 #[.pointer (some ⟨gd, 0, none⟩), .int .i64 n] w fun x w' => x = .returned (.tuple #[]) ∧ Mod (fun i _ => i = gd ∨ i = bd) w w' ∧ IsD w' gd bd N (d.arm n) := by
  obtain ⟨l, h1, h2⟩ := h
  refine (arm_any n hn w h2).mono ?_
  rintro x w' ⟨rfl, h3, hG⟩
  exact ⟨rfl, grown_mod' hG, l, h1, h3⟩
theorem pd_crash (A : Option Addr) (n c : Nat) (ks : List Nat) (w : World) (h : IsD w gd bd N d) (ho : d.Ok M K) (hM : M ≤ 100000000) (hK : K ≤ 100000) (hN : N ≤ 100000)
    (hkeep : ∀ v, Mod (fun i _ => i = bd) w v → RdK v v.heap.size A n c ks) (hks : ∀ x ∈ ks, x < 65536) :
    Calls Try.prog 19 #[.pointer (some ⟨gd, 0, none⟩), .slice A n c] w fun x w' => x = .returned (.tuple #[]) ∧ Mod (fun i _ => i = gd ∨ i = bd) w w' ∧ IsD w' gd bd (N + K) (d.crash ks) := by
  obtain ⟨l, h1, h2⟩ := h
  have hl := rows_len h1
  have hbd := pd_bd h1 ho
  have hlen := ho.len
  refine (crash_any A n c ks w h2 hN (by omega) hkeep hks (fun x hx => ⟨Nat.le_trans (hbd x hx).1 hM, (hbd x hx).2⟩)).mono ?_
  rintro x w' ⟨rfl, hm, l', hl', hd⟩
  exact ⟨rfl, hm, l', by rw [hl', ← crashF_core, h1]; rfl, hd.more (by omega)⟩
theorem pd_rd (k : ByteArray) (hk : k.size ≤ maxLen) (w : World) (h : IsD w gd bd N d) (ho : d.Ok M K) (hM : M ≤ 1099511627776) :
    Calls Try.prog 17 #[.pointer (some ⟨gd, 0, none⟩), .string k] w fun x w' => ∃ A n c, x = .returned (.tuple #[.slice A n c, .int .i64 (d.rc k)]) ∧ OwnB w' w.heap.size A n c (d.rb k) ∧ Below w.heap.size w w' := by
  obtain ⟨l, h1, h2⟩ := h
  have hbd := pd_bd h1 ho
  have e1 : rdCode l d.lost k = d.rc k := by unfold PD.rc rdCode; rw [← h1, findF_core]; cases findF l k <;> rfl
  have e2 : rdBytes l d.lost k = d.rb k := by unfold PD.rb rdBytes; rw [← h1, findF_core, getF_core]; cases findF l k <;> rfl
  rw [← e1, ← e2]
  exact dread_any k hk w h2 (fun x hx => Nat.le_trans (hbd x hx).1 hM)
theorem pd_su (k : ByteArray) (hk : k.size ≤ maxLen) (w : World) (h : IsD w gd bd N d) : Calls Try.prog 27 #[.pointer (some ⟨gd, 0, none⟩), .string k] w fun x w' => x = .returned (.int .i64 (d.su k)) ∧ w = w' := by
  obtain ⟨l, h1, h2⟩ := h
  have e : (getF l k).s = d.su k := by unfold PD.su; rw [← h1, getF_core]; rfl
  rw [← e]
  exact sure_any k hk w h2
theorem pd_lost (w : World) (h : IsD w gd bd N d) : Calls Try.prog 25 #[.pointer (some ⟨gd, 0, none⟩)] w fun x w' => x = .returned (.bool d.lost) ∧ w = w' := by
  obtain ⟨l, h1, h2⟩ := h
  exact lost_any w h2
theorem pd_new (w : World) : Calls Try.prog 14 #[] w fun r w' => ∃ g b, r = .returned (.pointer (some ⟨g, 0, none⟩)) ∧ IsD w' g b 0 PD.new ∧ w.heap.size ≤ b ∧ b < g ∧ Below w.heap.size w w' := by
  refine (new_dk w).mono ?_
  rintro x w' ⟨g, b, rfl, h1, h2⟩
  exact ⟨g, b, rfl, ⟨[], rfl, h1⟩, h2⟩
theorem rd_ap (k : ByteArray) (bl : List UInt8) (w : World) (h : IsR w gr d) (ho : d.Ok M K) (hM : M ≤ 100000000) (hK : K ≤ 1000000) (hn : bl.length ≤ 100000000) :
    Calls Try.prog 47 #[.pointer (some ⟨gr, 0, none⟩), .string k, .string ⟨bl.toArray⟩] w fun x w' => DR w w' gr d (d.apO k bl) x :=
  (rapp k bl w h ho.left0 (Nat.le_trans ho.len hK) (by have := get_bd ho.sm k; omega)).mono fun x w' hp => dr_of hp
theorem rd_sy (k : ByteArray) (w : World) (h : IsR w gr d) (ho : d.Ok M K) (hK : K ≤ 1000000) :
    Calls Try.prog 55 #[.pointer (some ⟨gr, 0, none⟩), .string k] w fun x w' => DR w w' gr d (d.syO k) x :=
  (rsync k w h ho.left0 (Nat.le_trans ho.len hK)).mono fun x w' hp => dr_of hp
theorem rd_rm (k : ByteArray) (w : World) (h : IsR w gr d) (ho : d.Ok M K) (hK : K ≤ 1000000) :
    Calls Try.prog 57 #[.pointer (some ⟨gr, 0, none⟩), .string k] w fun x w' => DR w w' gr d (d.rmO k) x :=
  (rremove k w h ho.left0 (Nat.le_trans ho.len hK)).mono fun x w' hp => dr_of hp
theorem rd_cu (k : ByteArray) (m : Int) (w : World) (h : IsR w gr d) (ho : d.Ok M K) (hM : M ≤ 100000000) (hK : K ≤ 1000000) :
    Calls Try.prog 58 #[.pointer (some ⟨gr, 0, none⟩), .string k, .int .i64 m] w fun x w' => DR w w' gr d (d.cuO k m) x :=
  (rcut k m w h ho.left0 (Nat.le_trans ho.len hK) (Nat.le_trans (get_bd ho.sm k) hM)).mono fun x w' hp => dr_of hp
theorem rd_re (k to : ByteArray) (w : World) (h : IsR w gr d) (ho : d.Ok M K) (hK : K ≤ 1000000) :
    Calls Try.prog 56 #[.pointer (some ⟨gr, 0, none⟩), .string k, .string to] w fun x w' => DR w w' gr d (d.reO k to) x :=
  (rrename k to w h ho.left0 (Nat.le_trans ho.len hK)).mono fun x w' hp => dr_of hp
theorem rd_arm (n : Int) (w : World) (h : IsR w gr d) :
    Calls Try.prog 45 #[.pointer (some ⟨gr, 0, none⟩), .int .i64 n] w fun x w' => x = .returned (.tuple #[]) ∧ Mod (fun i _ => i = gr) w w' ∧ IsR w' gr (d.arm n) := by
  refine (rarm_any n w h).mono ?_
  rintro x w' ⟨rfl, h3, hG⟩
  exact ⟨rfl, mod_one hG, h3⟩
theorem rd_crash (A : Option Addr) (n c : Nat) (ks : List Nat) (w : World) (h : IsR w gr d) (ho : d.Ok M K) (hM : M ≤ 100000000) (hK : K ≤ 100000) (hk0 : RdK w w.heap.size A n c ks) (hks : ∀ x ∈ ks, x < 65536) :
    Calls Try.prog 46 #[.pointer (some ⟨gr, 0, none⟩), .slice A n c] w fun x w' => x = .returned (.tuple #[]) ∧ Mod (fun i _ => i = gr) w w' ∧ IsR w' gr (d.crash ks) :=
  rcrash_any A n c ks w h hk0 hks (Nat.le_trans ho.len hK) (fun x hx => ⟨(ho.sure x hx).1, (ho.sure x hx).2, Nat.le_trans (ho.sm x hx).1 hM⟩)
theorem rd_rd (k : ByteArray) (w : World) (h : IsR w gr d) :
    Calls Try.prog 24 #[.pointer (some ⟨gr, 0, none⟩), .string k] w fun x w' => x = .returned (.tuple #[.string ⟨(d.rb k).toArray⟩, .int .i64 (d.rc k)]) ∧ Below w.heap.size w w' := rread_any k w h
theorem rd_find (k : ByteArray) (w : World) (h : IsR w gr d) :
    Calls Try.prog 59 #[.pointer (some ⟨gr, 0, none⟩), .string k] w fun x w' => x = .returned (foundV d.fs k) ∧ Below w.heap.size w w' := rFind_any k w h
theorem rd_new (w : World) : Calls Try.prog 21 #[] w fun x w' => ∃ g, x = .returned (.pointer (some ⟨g, 0, none⟩)) ∧ IsR w' g PD.new ∧ w.heap.size ≤ g ∧ Below w.heap.size w w' := rnew_any w
end
end Go.Proofs.Ytmoijbknjadeeaa
