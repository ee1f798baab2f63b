
/- Chapter 11: what a disk holds, and what is left of it at a crash. -/
import Derived.Test.YtnkjekkdndjfaaaGreatStoA
import Derived.Test.YtnkjekkdndjfaaaGreatStoB
namespace Go.Proofs.YtnkjekkdndjfaaaGreat
set_option linter.unusedVariables false
set_option linter.unusedSimpArgs false
open Go.RowKit
theorem sp_log : logN ≠ spF snapN := fun e => by
  have h := congrArg ByteArray.size e
  rw [spF_size] at h
  exact absurd h (by decide)
/-- the log's file: there is none, or it has these bytes, so many of which are sure -/
def LogF (d : PD) (b : List UInt8) (s : Int) : Prop := (findF d.fs logN = none ∧ b = []) ∨ findF d.fs logN = some ⟨logN, b, none, 0, 0, s⟩
/-- the file that has all: there is none, or it has this state -/
def SnF (d : PD) (s0 : SL) : Prop := (findF d.fs snapN = none ∧ s0 = ⟨0, []⟩) ∨ findF d.fs snapN = some ⟨snapN, slL (stL s0.rev s0.l), none, 0, 0, ((slL (stL s0.rev s0.l)).length : Int)⟩
section
variable {d : PD} {M K : Nat} {s0 s : SL} {b p : List UInt8} {k : ByteArray} {lost armed : Bool} {left : Int}
theorem SnF.same {d' : PD} (h : SnF d s0) (e : findF d'.fs snapN = findF d.fs snapN) : SnF d' s0 := by unfold SnF; rw [e]; exact h
theorem LogF.same {d' : PD} {s : Int} (h : LogF d b s) (e : findF d'.fs logN = findF d.fs logN) : LogF d' b s := by unfold LogF; rw [e]; exact h
theorem SnF.bs {n : Nat} (h : SnF d s0) (hl : d.lost = false) (hs : SI s0 n) (hn : n ≤ 1000) : bsC d = 0 ∧ bsS d = s0 := by
  rcases h with ⟨h, rfl⟩ | h
  · exact bs_none (d := d) (by unfold PD.rc rdCode; rw [h, hl]; rfl)
  · exact bs_put hl hs hn h
theorem LogF.get {s : Int} (h : LogF d b s) (hs : b = [] → s = 0) : (getF d.fs logN).b = b ∧ (getF d.fs logN).s = s := by
  rcases h with ⟨h, rfl⟩ | h
  · rw [getF_none h, hs rfl]; exact ⟨rfl, rfl⟩
  · rw [getF_some h]; exact ⟨rfl, rfl⟩
theorem ok_ap_t (h : d.Ok M K) (hk : k.size ≤ maxLen) {y : List UInt8} (hy : (getF d.fs k).b.length + y.length ≤ M) : (d.out (d.apO k y)).Ok M (K + 1) := by
  have h0 := h.fsok.mono (Nat.le_refl M) (Nat.le_succ K)
  have hg := h.fsok.get k
  unfold PD.apO apO
  split
  · exact FsOk.pd (d := d.out ⟨1, d.fs, d.lost, d.left⟩) h0 h.left0
  · refine FsOk.pd (d := d.out ⟨_, _, _, _⟩) ?_ (wrP_left h.left0)
    show FsOk (if _ then _ else _) _ _
    split
    · exact h0
    · exact h0.put _ ⟨by simp only [List.length_append]; omega, hk⟩ ⟨hg.2.1, by simp only [List.length_append]; omega⟩ rfl (Nat.le_trans (put_len _ _ h.asc) (Nat.succ_le_succ h.len))
theorem ok_la_t (h : d.Ok M K) (hy : (getF d.fs logN).b.length + (frameL p).length ≤ M) : (d.out (laO d logN p)).Ok M (K + 1) := by
  have h1 := ok_ap_t h logN_hi hy
  unfold laO
  split
  · exact ok_sy h1 logN logN_hi
  · exact h1
theorem ok_sv_t (hl : d.lost = false) (ho : d.Ok M K) (hb : (slL b).length ≤ M) : (d.out (svO d (spF snapN) snapN b)).Ok M (K + 1) := by
  have hsp : (spF snapN).size ≤ maxLen := by rw [spF_size]; exact snapN_hi
  have hok0 := ok_rm ho (spF snapN)
  have hm : ∀ {D : PD}, D.Ok M K → D.Ok M (K + 1) := fun h => h.mono (Nat.le_refl _) (by omega)
  unfold svO
  split
  · rename_i hc
    have hn : findF (d.rmO (spF snapN)).core (spF snapN) = none := by
      rcases st_rm (nm := snapN) hl (spF_ne snapN) with ⟨e, hn⟩ | ⟨q1, q2, q3, q4, q5, q6⟩ | ⟨q1, q2, q3, q4, q5⟩
      · rw [e]; exact hn
      · exact q5
      · rw [q1] at hc; omega
    unfold sv3
    have hok1 := ok_ap_t hok0 hsp (y := slL b) (by
      show (getF (d.rmO (spF snapN)).core (spF snapN)).b.length + _ ≤ M
      rw [getF_none hn]
      show 0 + _ ≤ M
      omega)
    split
    · unfold sv2
      have hok2 := ok_sy hok1 (spF snapN) hsp
      split
      · exact ok_re hok2 (spF snapN) snapN snapN_mx
      · exact hok2
    · exact hok1
  · exact hm hok0
/-- a file that an operation is not about -/
theorem go_keep {l new : List Fi} {q : ByteArray} {bad : Bool} (h : findF new k = findF l k) : findF (goO l q lost armed left bad new).core k = findF l k := by
  unfold goO
  split
  · rfl
  · split
    · rfl
    · show findF (if _ then new else l) k = _
      split
      · exact h
      · rfl
theorem ap_keep {q : ByteArray} {y : List UInt8} (ha : AscF d.fs) (h : k ≠ q) : findF (d.apO q y).core k = findF d.fs k := by
  unfold PD.apO apO
  split
  · rfl
  · show findF (if _ then d.fs else _) k = _
    split
    · rfl
    · rw [findF_apply _ false ha, if_neg h]
theorem sv_keep (ho : d.Ok M K) : findF (svO d (spF snapN) snapN b).core logN = findF d.fs logN := by
  have hsp : (spF snapN).size ≤ maxLen := by rw [spF_size]; exact snapN_hi
  have hok0 := ok_rm ho (spF snapN)
  have e0 : findF (d.rmO (spF snapN)).core logN = findF d.fs logN := go_keep (by rw [findF_without, if_neg sp_log])
  unfold svO
  split
  · unfold sv3
    have hok1 := ok_ap hok0 (spF snapN) hsp (slL b)
    have e1 := ap_keep (d := d.out (d.rmO (spF snapN))) (q := spF snapN) (y := slL b) hok0.asc sp_log
    split
    · unfold sv2
      have hok2 := ok_sy hok1 (spF snapN) hsp
      have e2 : findF (((d.out (d.rmO (spF snapN))).out ((d.out (d.rmO (spF snapN))).apO (spF snapN) (slL b))).syO (spF snapN)).core logN = findF ((d.out (d.rmO (spF snapN))).apO (spF snapN) (slL b)).core logN := go_keep (by rw [findF_apply _ false hok1.asc, if_neg sp_log])
      split
      · unfold sv1
        refine Eq.trans (go_keep ?_) (e2.trans (e1.trans e0))
        rw [findF_apply _ false (asc_without hok2.asc _), if_neg log_snap, findF_without, if_neg sp_log]
      · exact e2.trans (e1.trans e0)
    · exact e1.trans e0
  · exact e0
/-- a record more: it is there and sure, or the disk is lost -/
theorem la_two (hl : d.lost = false) (ho : d.Ok M K) (hb : LogF d b (b.length : Int)) :
    ((laO d logN p).code = 0 ∧ (laO d logN p).lost = false ∧ findF (laO d logN p).core logN = some ⟨logN, b ++ frameL p, none, 0, 0, ((b ++ frameL p).length : Int)⟩ ∧ findF (laO d logN p).core snapN = findF d.fs snapN) ∨
    ((laO d logN p).code = 12 ∧ findF (laO d logN p).core logN = some ⟨logN, b ++ frameL p, none, 0, 0, (b.length : Int)⟩ ∧ findF (laO d logN p).core snapN = findF d.fs snapN) := by
  obtain ⟨g1, g2⟩ := hb.get (fun e => by rw [e]; rfl)
  have ea : d.apO logN (frameL p) = ⟨(wrP false d.armed d.left).code, applyF ⟨logN, b ++ frameL p, none, 0, 0, (b.length : Int)⟩ false d.fs, (wrP false d.armed d.left).lost, (wrP false d.armed d.left).left⟩ := by
    unfold PD.apO apO
    rw [if_neg (by decide), hl, g1, g2]
    rfl
  have f1 := findF_apply ⟨logN, b ++ frameL p, none, 0, 0, (b.length : Int)⟩ false ho.asc
  have ok1 := ok_ap ho logN logN_hi (frameL p)
  have s1 : findF (d.apO logN (frameL p)).core logN = some ⟨logN, b ++ frameL p, none, 0, 0, (b.length : Int)⟩ := by rw [ea]; show findF (applyF _ _ _) _ = _; rw [f1, if_pos rfl]; rfl
  have s2 : findF (d.apO logN (frameL p)).core snapN = findF d.fs snapN := ap_keep ho.asc (Ne.symm log_snap)
  have c1 : (d.apO logN (frameL p)).code = (wrP false d.armed d.left).code := by rw [ea]
  have c2 : (d.apO logN (frameL p)).lost = (wrP false d.armed d.left).lost := by rw [ea]
  clear ea f1
  unfold laO
  generalize d.apO logN (frameL p) = o1 at *
  rcases wr_false d.armed d.left with ⟨q1, q2, q3, q4⟩ | ⟨q1, q2, q3, q4⟩
  · rw [if_pos (by rw [c1]; exact q1)]
    have hS : StO (d.out o1) ((d.out o1).syO logN) (fun l => findF l logN = some ⟨logN, b ++ frameL p, none, 0, 0, ((b ++ frameL p).length : Int)⟩ ∧ findF l snapN = findF d.fs snapN) (fun l => findF l logN = some ⟨logN, b ++ frameL p, none, 0, 0, (b.length : Int)⟩ ∧ findF l snapN = findF d.fs snapN) := by
      refine st_go (d := d.out o1) (by show o1.lost = false; rw [c2]; exact q2) (by show (findF o1.core logN).isSome = true; rw [s1]; rfl) ?_ ⟨s1, s2⟩
      have f2 := findF_apply ⟨logN, b ++ frameL p, none, 0, 0, ((b ++ frameL p).length : Int)⟩ false ok1.asc
      rw [show getF (d.out o1).fs logN = _ from getF_some s1]
      exact ⟨by rw [f2, if_pos rfl]; rfl, by rw [f2, if_neg (Ne.symm log_snap)]; exact s2⟩
    unfold StO at hS
    rcases hS with ⟨r1, r2, _, _, r5⟩ | ⟨r1, _, _, _, r5⟩
    · exact .inl ⟨r1, r2, r5.1, r5.2⟩
    · exact .inr ⟨r1, r5.1, r5.2⟩
  · rw [if_neg (by rw [c1, q1]; decide)]
    exact .inr ⟨by rw [c1]; exact q1, s1, s2⟩
theorem go_live {new : List Fi} (hl : d.lost = false) (har : d.armed = false) {k : ByteArray} (hf : (findF d.fs k).isSome = true) : goO d.fs k d.lost d.armed d.left false new = ⟨0, new, false, d.left⟩ := by
  unfold goO
  rw [if_neg (by rw [hf]; simp), if_neg (by simp), hl, har]
  rfl
theorem cu_eq (hf : findF d.fs logN = some ⟨logN, b, none, 0, 0, (b.length : Int)⟩) {a : Nat} (ha : a ≤ b.length) : d.cuO logN (a : Int) = goO d.fs logN d.lost d.armed d.left false (applyF ⟨logN, b.take a, none, 0, 0, (a : Int)⟩ false d.fs) := by
  unfold PD.cuO cuO
  rw [getF_some hf]
  simp only
  rw [decide_eq_false (show ¬ ((a : Int) < 0) by omega), decide_eq_false (show ¬ ((b.length : Int) < (a : Int)) by omega), Bool.or_false, Int.toNat_natCast]
/-- the log is emptied, or the disk is lost -/
theorem cl_two (hl : d.lost = false) (ho : d.Ok M K) (hb : LogF d b (b.length : Int)) (sz : Int) : ∃ c q, wcP ⟨d, sz, false⟩ logN = (c, q) ∧ q.d.Ok M K ∧ q.d.armed = d.armed ∧ findF q.d.fs snapN = findF d.fs snapN ∧
    ((c = 0 ∧ q.sz = 0 ∧ q.dead = false ∧ q.d.lost = false ∧ LogF q.d [] 0) ∨ (c = 12 ∧ findF q.d.fs logN = findF d.fs logN)) := by
  have hok := ok_cu ho logN 0 logN_hi
  unfold wcP
  rw [if_neg (by simp)]
  simp only
  rcases hb with ⟨hf, rfl⟩ | hf
  · have e : d.cuO logN 0 = ⟨6, d.fs, d.lost, d.left⟩ := by
      unfold PD.cuO cuO goO
      rw [if_pos (by rw [hf]; rfl)]
    rw [e] at hok ⊢
    rw [if_pos (.inr rfl)]
    exact ⟨_, _, rfl, hok, rfl, rfl, .inl ⟨rfl, rfl, rfl, hl, .inl ⟨hf, rfl⟩⟩⟩
  · have hS : StO d (d.cuO logN 0) (fun l => findF l logN = some ⟨logN, [], none, 0, 0, 0⟩ ∧ findF l snapN = findF d.fs snapN) (fun l => findF l logN = findF d.fs logN ∧ findF l snapN = findF d.fs snapN) := by
      have e := cu_eq hf (a := 0) (Nat.zero_le _)
      rw [show ((0 : Nat) : Int) = 0 from rfl] at e
      rw [e]
      have hfa := findF_apply ⟨logN, b.take 0, none, 0, 0, 0⟩ false ho.asc
      exact st_go hl (by rw [hf]; rfl) ⟨by rw [hfa, if_pos rfl]; rfl, by rw [hfa, if_neg (Ne.symm log_snap)]⟩ ⟨rfl, rfl⟩
    generalize d.cuO logN 0 = o at *
    rcases hS with ⟨q1, q2, _, _, q5⟩ | ⟨q1, _, _, _, q5⟩
    · rw [if_pos (.inl q1)]
      exact ⟨_, _, rfl, hok, rfl, q5.2, .inl ⟨rfl, rfl, rfl, q2, .inr q5.1⟩⟩
    · rw [if_neg (by rw [q1]; omega)]
      exact ⟨_, _, rfl, hok, rfl, q5.2, .inr ⟨q1, q5.1⟩⟩
theorem mend_sure (hl : d.lost = false) (har : d.armed = false) (ho : d.Ok M K) (hf : findF d.fs logN = some ⟨logN, b, none, 0, 0, (b.length : Int)⟩) {a : Nat} (hat : a ≤ b.length) :
    (mendO d logN (b.length : Nat) a).code = 0 ∧ (d.out (mendO d logN (b.length : Nat) a)).Ok M K ∧ (d.out (mendO d logN (b.length : Nat) a)).lost = false ∧ findF (d.out (mendO d logN (b.length : Nat) a)).fs snapN = findF d.fs snapN ∧ findF (d.out (mendO d logN (b.length : Nat) a)).fs logN = some ⟨logN, b.take a, none, 0, 0, (a : Int)⟩ := by
  have hsu : d.su logN = (b.length : Int) := by unfold PD.su; rw [getF_some hf]
  have hcu := ok_cu ho logN (a : Int) logN_hi
  unfold mendO
  by_cases h1 : (a : Int) < ((b.length : Nat) : Int)
  · rw [if_pos h1]
    rw [cu_eq hf hat, go_live hl har (by rw [hf]; rfl)] at hcu ⊢
    have hfa := findF_apply ⟨logN, b.take a, none, 0, 0, (a : Int)⟩ false ho.asc
    exact ⟨rfl, hcu, rfl, by show findF (applyF _ _ _) _ = _; rw [hfa, if_neg (Ne.symm log_snap)], by show findF (applyF _ _ _) _ = _; rw [hfa, if_pos rfl]; rfl⟩
  · have e : a = b.length := by omega
    rw [if_neg h1, hsu, if_neg (by omega)]
    exact ⟨rfl, ho, hl, rfl, by show findF d.fs logN = _; rw [hf, e, List.take_length]⟩
end
section
variable {ks : List Nat} {k : ByteArray}
theorem crash_none : ∀ {l : List Fi} {i : Nat}, findF l k = none → findF (crashF ks i l) k = none := by
  intro l
  induction l with
  | nil => intro i h; exact h
  | cons y l ih =>
    intro i h
    rw [crashF, findF_cons]
    rw [findF_cons] at h
    by_cases hy : y.k = k
    · rw [if_pos hy] at h; cases h
    · rw [if_neg hy] at h
      rw [if_neg (show ¬ (crashX ks i y).k = k from hy)]
      exact ih h
theorem crash_some : ∀ {l : List Fi} {i : Nat} {x : Fi}, findF l k = some x → 0 ≤ x.s ∧ x.s ≤ (x.b.length : Int) → ∃ m : Nat, x.s ≤ (m : Int) ∧ m ≤ x.b.length ∧ findF (crashF ks i l) k = some ⟨x.k, x.b.take m, none, 0, 0, (m : Int)⟩ := by
  intro l
  induction l with
  | nil => intro i x h; unfold findF at h; simp at h
  | cons y l ih =>
    intro i x h hs
    rw [crashF, findF_cons]
    rw [findF_cons] at h
    by_cases hy : y.k = k
    · rw [if_pos hy] at h
      obtain rfl := Option.some.inj h
      rw [if_pos (show (crashX ks i y).k = k from hy)]
      refine ⟨crashN ks i y, ?_, crashN_le (by omega), rfl⟩
      unfold crashN
      omega
    · rw [if_neg hy] at h
      rw [if_neg (show ¬ (crashX ks i y).k = k from hy)]
      exact ih h hs
end
theorem torn_frames : ∀ (ws : List (List UInt8)) (m : Nat), (framesL ws).take (tornN ws m).2 = framesL (ws.take (tornN ws m).1)
  | [], m => rfl
  | p :: ws, m => by
    have e1 : framesL (p :: ws) = frameL p ++ framesL ws := rfl
    have ih := torn_frames ws (m - (8 + p.length))
    unfold tornN
    split
    · simp only [List.take_succ_cons]
      rw [e1, show framesL (p :: ws.take (tornN ws (m - (8 + p.length))).1) = frameL p ++ framesL (ws.take (tornN ws (m - (8 + p.length))).1) from rfl, ← ih, List.take_append, List.take_of_length_le (by rw [frameL_length]; omega), frameL_length, Nat.add_sub_cancel]
    · rfl
theorem torn_ge11 : ∀ (ws rs : List (List UInt8)) (cut : Nat), (framesL ws).length ≤ cut → ws.length ≤ (tornN (ws ++ rs) cut).1
  | [], rs, cut, h => Nat.zero_le _
  | p :: ws, rs, cut, h => by
    have e1 : framesL (p :: ws) = frameL p ++ framesL ws := rfl
    rw [e1, List.length_append, frameL_length] at h
    rw [List.cons_append]
    unfold tornN
    rw [if_pos (by omega)]
    have := torn_ge11 ws rs (cut - (8 + p.length)) (by omega)
    simp only [List.length_cons]
    omega
/-- a disk that holds a state: what is in one file, and the records behind it, all sure -/
structure Hold (d : PD) (s0 : SL) (ws : List (List UInt8)) (s : SL) (n : Nat) : Prop where
  sn : SnF d s0
  s0i : SI s0 n
  lg : LogF d (framesL ws) ((framesL ws).length : Int)
  sz : ∀ p ∈ ws, 1 ≤ p.length ∧ p.length ≤ 245
  cnt : ws.length ≤ n
  rp : rplS s0 ws = (0, s)
/-- a disk that is lost: what is sure of the log, and what may be there -/
structure Left (d : PD) (s0 : SL) (ws rs : List (List UInt8)) (n : Nat) : Prop where
  sn : SnF d s0
  s0i : SI s0 n
  lg : LogF d (framesL rs) ((framesL ws).length : Int)
  pre : rs = ws ∨ ∃ p, rs = ws ++ [p]
  sz : ∀ p ∈ rs, 1 ≤ p.length ∧ p.length ≤ 245
  cnt : rs.length ≤ n
/-- a disk that may be opened: the records that are read -/
structure Rdy (d : PD) (s0 : SL) (ts : List (List UInt8)) (n : Nat) : Prop where
  lost : d.lost = false
  arm : d.armed = false
  sn : SnF d s0
  s0i : SI s0 n
  lg : (findF d.fs logN = none ∧ ts = []) ∨ ∃ b a code, findF d.fs logN = some ⟨logN, b, none, 0, 0, (b.length : Int)⟩ ∧ AllR b ts a code ∧ a ≤ b.length ∧ b.take a = framesL ts
  sz : ∀ p ∈ ts, 1 ≤ p.length ∧ p.length ≤ 245
  cnt : ts.length ≤ n
section
variable {d d' : PD} {M K n m : Nat} {s0 s : SL} {ws rs : List (List UInt8)} {p : List UInt8}
theorem Hold.same (h : Hold d s0 ws s n) (e1 : findF d'.fs snapN = findF d.fs snapN) (e2 : findF d'.fs logN = findF d.fs logN) (hn : n ≤ m) : Hold d' s0 ws s m :=
  ⟨h.sn.same e1, h.s0i.more hn, h.lg.same e2, h.sz, Nat.le_trans h.cnt hn, h.rp⟩
theorem Hold.left (h : Hold d s0 ws s n) : Left d s0 ws ws n := ⟨h.sn, h.s0i, h.lg, .inl rfl, h.sz, h.cnt⟩
theorem Hold.rdy (h : Hold d s0 ws s n) (hl : d.lost = false) (ha : d.armed = false) : Rdy d s0 ws n := by
  refine ⟨hl, ha, h.sn, h.s0i, ?_, h.sz, h.cnt⟩
  rcases h.lg with ⟨h1, h2⟩ | h1
  · refine .inl ⟨h1, ?_⟩
    cases ws with
    | nil => rfl
    | cons p ws =>
      have := congrArg List.length h2
      rw [show framesL (p :: ws) = frameL p ++ framesL ws from rfl, List.length_append, frameL_length] at this
      simp at this
  · exact .inr ⟨_, _, _, h1, all_frames ws (fun p hp => by have := h.sz p hp; omega), Nat.le_refl _, List.take_length⟩
/-- a crash -/
theorem Left.crash (h : Left d s0 ws rs n) (ks : List Nat) : ∃ ts, (ts = ws ∨ ts = rs) ∧ Rdy (d.crash ks) s0 ts n := by
  have hsn : SnF (d.crash ks) s0 := by
    rcases h.sn with ⟨h1, h2⟩ | h1
    · exact .inl ⟨crash_none h1, h2⟩
    · exact .inr (crash_sure h1 rfl (Int.natCast_nonneg _) rfl)
  rcases h.lg with ⟨h1, h2⟩ | h1
  · have hr : rs = [] := by
      cases rs with
      | nil => rfl
      | cons p ws =>
        have := congrArg List.length h2
        rw [show framesL (p :: ws) = frameL p ++ framesL ws from rfl, List.length_append, frameL_length] at this
        simp at this
    exact ⟨rs, .inr rfl, rfl, rfl, hsn, h.s0i, .inl ⟨crash_none h1, hr⟩, h.sz, h.cnt⟩
  · have hle : (framesL ws).length ≤ (framesL rs).length := by
      rcases h.pre with e | ⟨p, e⟩
      · rw [e]; exact Nat.le_refl _
      · rw [e, framesL_snoc, List.length_append]; omega
    obtain ⟨m, m1, m2, m3⟩ := crash_some (ks := ks) (i := 0) h1 ⟨Int.natCast_nonneg _, by simp only; omega⟩
    simp only at m1 m2 m3
    have hml : ((framesL rs).take m).length = m := by rw [List.length_take]; omega
    have ht := tornN_le rs m
    have hall := all_torn rs m (fun p hp => by have := h.sz p hp; omega) m2
    refine ⟨rs.take (tornN rs m).1, ?_, rfl, rfl, hsn, h.s0i, .inr ⟨_, _, _, by rw [hml]; exact m3, hall, by rw [hml]; exact ht.2, ?_⟩, fun p hp => h.sz p (List.mem_of_mem_take hp), Nat.le_trans (by rw [List.length_take]; omega) h.cnt⟩
    · rcases h.pre with e | ⟨p, e⟩
      · have g := torn_ge11 ws [] m (by omega)
        rw [List.append_nil, ← e] at g
        rw [← e] at *
        exact .inl (List.take_of_length_le g)
      · have g := torn_ge11 ws [p] m (by omega)
        rw [← e] at g
        have hl2 : rs.length = ws.length + 1 := by rw [e]; simp
        by_cases hq : (tornN rs m).1 = ws.length
        · rw [hq, e]; exact .inl (List.take_left' rfl)
        · exact .inr (List.take_of_length_le (by omega))
    · rw [List.take_take, Nat.min_eq_left ht.2, torn_frames]
theorem rpl_past : ∀ (ws : List (List UInt8)) (s : SL), (∀ p ∈ ws, okE p ∧ (rdE p).e.r ≤ s.rev) → rplS s ws = (0, s)
  | [], s, _ => rfl
  | p :: ws, s, h => by
    have h1 := h p (by simp)
    rw [rplS, if_pos h1.1, if_pos h1.2]
    exact rpl_past ws s fun q hq => h q (by simp [hq])
theorem rpl_snoc : ∀ (ws : List (List UInt8)) (s0 s : SL) (p : List UInt8), rplS s0 ws = (0, s) → rplS s0 (ws ++ [p]) = rplS s [p]
  | [], s0, s, p, h => by
    have : s0 = s := congrArg Prod.snd h
    rw [this]
    rfl
  | q :: ws, s0, s, p, h => by
    rw [rplS] at h
    rw [List.cons_append, rplS]
    split
    · rename_i h1
      rw [if_pos h1] at h
      split
      · rename_i h2
        rw [if_pos h2] at h
        exact rpl_snoc ws s0 s p h
      · rename_i h2
        rw [if_neg h2] at h
        split
        · rename_i h3
          rw [if_pos h3] at h
          exact rpl_snoc ws _ s p h
        · rename_i h3
          rw [if_neg h3] at h
          cases h
    · rename_i h1
      rw [if_neg h1] at h
      cases h
theorem rpl_rev : ∀ (ws : List (List UInt8)) (s0 s : SL), rplS s0 ws = (0, s) → s0.rev ≤ s.rev ∧ ∀ p ∈ ws, okE p ∧ (rdE p).e.r ≤ s.rev
  | [], s0, s, h => by
    have : s0 = s := congrArg Prod.snd h
    rw [this]
    exact ⟨Int.le_refl _, fun p hp => by cases hp⟩
  | q :: ws, s0, s, h => by
    rw [rplS] at h
    by_cases h1 : okE q
    · rw [if_pos h1] at h
      by_cases h2 : (rdE q).e.r ≤ s0.rev
      · rw [if_pos h2] at h
        obtain ⟨a, b⟩ := rpl_rev ws s0 s h
        refine ⟨a, fun p hp => ?_⟩
        rcases List.mem_cons.1 hp with rfl | hp
        · exact ⟨h1, Int.le_trans h2 a⟩
        · exact b p hp
      · rw [if_neg h2] at h
        by_cases h3 : apOk s0.rev s0.l (rdE q).e = true
        · rw [if_pos h3] at h
          obtain ⟨a, b⟩ := rpl_rev ws _ s h
          simp only at a
          refine ⟨by omega, fun p hp => ?_⟩
          rcases List.mem_cons.1 hp with rfl | hp
          · exact ⟨h1, a⟩
          · exact b p hp
        · rw [if_neg h3] at h
          cases h
    · rw [if_neg h1] at h
      cases h
theorem rpl_one {e : Eff} (hri : e.right) (hrv : e.r < 9223372036854775808) (hr : s.rev < e.r) (hap : apOk s.rev s.l e = true) : rplS s [effL e] = (0, ⟨e.r, applyL e.it e.g s.l⟩) := by
  rw [rplS, if_pos (okE_put e hri hrv), rdE_put e hri hrv]
  simp only
  rw [if_neg (by omega), if_pos hap]
  rfl
end
end Go.Proofs.YtnkjekkdndjfaaaGreat
