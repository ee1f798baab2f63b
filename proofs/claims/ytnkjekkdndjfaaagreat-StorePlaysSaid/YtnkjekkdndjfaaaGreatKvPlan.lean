
/- Chapter 9: Plan. -/
import Derived.Test.YtnkjekkdndjfaaaGreatKvMay
namespace Go.Proofs.YtnkjekkdndjfaaaGreat
set_option linter.unusedVariables false
set_option linter.unusedSimpArgs false
open Go.RowKit
structure Told where
  code : Int
  rev : Int
  val : ByteArray
  items : List It
structure Pl where
  told : Told
  eff : Eff
  wr : Bool
def inc (rev : Int) : Int := IntKind.i64.wrap (rev + 1)
/-- what is told, and what it does -/
def planP (rev : Int) (l : List It) (o : Ask) : Pl :=
  if o.kind = 1 then ⟨⟨(getR l o.key).1, (getR l o.key).2.1, (getR l o.key).2.2, []⟩, Eff.zero, false⟩
  else if o.kind = 2 then ⟨⟨0, rev, ⟨#[]⟩, l.filter fun x => begB o.key x.k⟩, Eff.zero, false⟩
  else if o.kind < 3 ∨ 5 < o.kind then ⟨⟨1, 0, ⟨#[]⟩, []⟩, Eff.zero, false⟩
  else if mayE l o ≠ 0 then ⟨⟨mayE l o, 0, ⟨#[]⟩, []⟩, Eff.zero, false⟩
  else ⟨⟨0, inc rev, ⟨#[]⟩, []⟩, ⟨o.key, if o.kind = 5 then ⟨#[]⟩ else o.val, inc rev, decide (o.kind = 5)⟩, true⟩
def PlanR (w w' : World) (p : Pl) (x : Ending) : Prop :=
  ∃ A n c, x = .returned (.tuple #[.agg #[.int .i64 p.told.code, .int .i64 p.told.rev, .string p.told.val, .slice A n c], .agg #[.string p.eff.k, .string p.eff.v, .int .i64 p.eff.r, .bool p.eff.g], .bool p.wr]) ∧ OwnI w' w.heap.size A n c p.told.items ∧ Below w.heap.size w w'
set_option maxRecDepth 100000 in
set_option maxHeartbeats 4000000 in
theorem plan_get {g b N : Nat} {rev : Int} {l : List It} (ki : Int) (k v i : ByteArray) (r j : Int) (w : World) (hst : IsSt w g b N rev l) (hks : k.size ≤ maxLen) (hki : ki = 1) :
    Calls Tryz.prog 43 #[.pointer (some ⟨g, 0, none⟩), .agg #[.int .i64 ki, .string k, .string v, .int .i64 r, .string i, .int .i64 j]] w fun x w' => PlanR w w' (planP rev l ⟨ki, k, v, r, i, j⟩) x := by
  have hp : planP rev l ⟨ki, k, v, r, i, j⟩ = ⟨⟨(getR l k).1, (getR l k).2.1, (getR l k).2.2, []⟩, Eff.zero, false⟩ := by simp [planP, hki]
  have HP := Lib.hid hp
  clear hp
  have hk1 : (ki == 1) = true := by rw [hki]; rfl
  have hk2 : (ki == 2) = false := by rw [hki]; rfl
  have hne : ki ≠ 2 := by omega
  clear hki
  obtain ⟨h0, h1, h2, hb⟩ := three_at w 49 [.int .i64 ki, .string k, .string v, .int .i64 r, .string i, .int .i64 j] 58 [.int .i64 0, .int .i64 0, .string ⟨#[]⟩, .slice none 0 0] 115 [.string ⟨#[]⟩, .string ⟨#[]⟩, .int .i64 0, .bool false]
  have HST := Lib.hid (hst.step hb)
  clear hst
  go_enter Tryz.func43, Tryz.ntmps43
  go_upto_region 1 with fail
  generalize hW1 : World.alloc (World.alloc (World.alloc w _) _) _ = w1 at *
  have hsz : w.heap.size + 3 ≤ w1.heap.size := by rw [← hW1]; simp
  clear hW1
  obtain ⟨⟨x0, x1, x2, x3, x4, x5⟩, xf⟩ := at6 h0
  generalize hgr : getR l k = gr at *
  obtain ⟨gc, gr1, gv⟩ := gr
  have HRD := Lib.hid (read_get ki k v i r j w1 HST.out hks hne)
  rw [hgr] at HRD
  simp only at HRD HP
  go_upto_region 4 with fail
  obtain ⟨⟨u0, u1, u2, u3⟩, v0, v1, v2, v3⟩ := at4 h1
  obtain ⟨⟨p0, p1, p2, p3⟩, q0, q1, q2, q3⟩ := at4 h2
  go_wp2_with (((with_reducible refine calls_id ?_); refine HRD.out.mono ?_; rintro y w2 ⟨A2, n2, c2, rfl, hown, hb2⟩); (have h1 := h1.below hb2); (have h2 := h2.below hb2); (obtain ⟨⟨u0, u1, u2, u3⟩, v0, v1, v2, v3⟩ := at4 h1); (obtain ⟨⟨p0, p1, p2, p3⟩, q0, q1, q2, q3⟩ := at4 h2))
  replace hb := chain hb hb2
  obtain ⟨hm1, hG1⟩ := At.many [(0, .int .i64 gc), (1, .int .i64 gr1), (2, .string gv), (3, .slice A2 n2 c2)] h1
  have h2' := h2.only hG1 (by omega)
  obtain ⟨hm2, hG2⟩ := At.many [(0, .string ⟨#[]⟩), (1, .string ⟨#[]⟩), (2, .int .i64 0), (3, .bool false)] h2'
  have hm1' := hm1.only hG2 (by omega)
  have hown' := own_mod (own_mod (show OwnI _ _ _ _ _ _ from hown) (grown_mod hG1) (fun i o _ hi _ e => by injection e with e; omega)) (grown_mod hG2) (fun i o _ hi _ e => by injection e with e; omega)
  have hb' := (hb.trans ((Below.refl w.heap.size _).grown hG1 hb.size (by intro i hi; injection hi with hi; omega))).trans ((Below.refl w.heap.size _).grown hG2 (Nat.le_trans hb.size hG1.size) (by intro i hi; injection hi with hi; omega))
  dsimp only [setMany, setL, List.set] at hm1' hm2 hb' hown'
  clear u0 u1 u2 u3 v0 v1 v2 v3 p0 p1 p2 p3 q0 q1 q2 q3 hG1 hG2 hm1 h1 h2 h2' hb
  generalize World.setCell _ _ _ = w5 at *
  obtain ⟨⟨u0, u1, u2, u3⟩, _⟩ := at4 hm1'
  obtain ⟨⟨p0, p1, p2, p3⟩, _⟩ := at4 hm2
  exact bodyPost_ret (v := .tuple #[.agg #[.int .i64 gc, .int .i64 gr1, .string gv, .slice A2 n2 c2], .agg #[.string ⟨#[]⟩, .string ⟨#[]⟩, .int .i64 0, .bool false], .bool false]) (by simp [results, Tryz.results43, go_sem, u0, u1, u2, u3, p0, p1, p2, p3]) rfl ⟨_, _, _, by rw [HP.out]; rfl, by rw [HP.out]; exact own_lower hown' (by omega), hb'⟩
set_option maxRecDepth 100000 in
set_option maxHeartbeats 4000000 in
theorem plan_list {g b N : Nat} {rev : Int} {l : List It} (k v i : ByteArray) (r j : Int) (w : World) (hst : IsSt w g b N rev l) (hN : N ≤ 1000000) (hk : ∀ x ∈ l, x.k.size ≤ 1000) :
    Calls Tryz.prog 43 #[.pointer (some ⟨g, 0, none⟩), .agg #[.int .i64 2, .string k, .string v, .int .i64 r, .string i, .int .i64 j]] w fun x w' => PlanR w w' (planP rev l ⟨2, k, v, r, i, j⟩) x := by
  have hp : planP rev l ⟨2, k, v, r, i, j⟩ = ⟨⟨0, rev, ⟨#[]⟩, l.filter fun x => begB k x.k⟩, Eff.zero, false⟩ := by simp [planP]
  have HP := Lib.hid hp
  have HK := Lib.hid hk
  clear hp hk
  obtain ⟨ki, hki⟩ : ∃ ki : Int, ki = 2 := ⟨_, rfl⟩
  have HKI := Lib.hid hki
  rw [← hki] at HP ⊢
  have hk1 : (ki == 1) = false := by rw [hki]; rfl
  have hk2 : (ki == 2) = true := by rw [hki]; rfl
  clear hki
  obtain ⟨h0, h1, h2, hb⟩ := three_at w 49 [.int .i64 ki, .string k, .string v, .int .i64 r, .string i, .int .i64 j] 58 [.int .i64 0, .int .i64 0, .string ⟨#[]⟩, .slice none 0 0] 115 [.string ⟨#[]⟩, .string ⟨#[]⟩, .int .i64 0, .bool false]
  have HST := Lib.hid (hst.step hb)
  clear hst
  go_enter Tryz.func43, Tryz.ntmps43
  go_upto_region 1 with fail
  generalize hW1 : World.alloc (World.alloc (World.alloc w _) _) _ = w1 at *
  have hsz : w.heap.size + 3 ≤ w1.heap.size := by rw [← hW1]; simp
  clear hW1
  obtain ⟨⟨x0, x1, x2, x3, x4, x5⟩, xf⟩ := at6 h0
  have hrd := read_list k v i r j w1 HST.out hN HK.out
  rw [← HKI.out] at hrd
  have HRD := Lib.hid hrd
  clear hrd
  go_upto_region 4 with fail
  obtain ⟨⟨u0, u1, u2, u3⟩, v0, v1, v2, v3⟩ := at4 h1
  obtain ⟨⟨p0, p1, p2, p3⟩, q0, q1, q2, q3⟩ := at4 h2
  go_wp2_with (((with_reducible refine calls_id ?_); refine HRD.out.mono ?_; rintro y w2 ⟨A2, n2, c2, rfl, hown, hb2⟩); (have h1 := h1.below hb2); (have h2 := h2.below hb2); (obtain ⟨⟨u0, u1, u2, u3⟩, v0, v1, v2, v3⟩ := at4 h1); (obtain ⟨⟨p0, p1, p2, p3⟩, q0, q1, q2, q3⟩ := at4 h2))
  replace hb := chain hb hb2
  obtain ⟨hm1, hG1⟩ := At.many [(0, .int .i64 0), (1, .int .i64 rev), (2, .string ⟨#[]⟩), (3, .slice A2 n2 c2)] h1
  have h2' := h2.only hG1 (by omega)
  obtain ⟨hm2, hG2⟩ := At.many [(0, .string ⟨#[]⟩), (1, .string ⟨#[]⟩), (2, .int .i64 0), (3, .bool false)] h2'
  have hm1' := hm1.only hG2 (by omega)
  have hown' := own_mod (own_mod (show OwnI _ _ _ _ _ _ from hown) (grown_mod hG1) (fun i o _ hi _ e => by injection e with e; omega)) (grown_mod hG2) (fun i o _ hi _ e => by injection e with e; omega)
  have hb' := (hb.trans ((Below.refl w.heap.size _).grown hG1 hb.size (by intro i hi; injection hi with hi; omega))).trans ((Below.refl w.heap.size _).grown hG2 (Nat.le_trans hb.size hG1.size) (by intro i hi; injection hi with hi; omega))
  dsimp only [setMany, setL, List.set] at hm1' hm2 hb' hown'
  clear u0 u1 u2 u3 v0 v1 v2 v3 p0 p1 p2 p3 q0 q1 q2 q3 hG1 hG2 hm1 h1 h2 h2' hb
  generalize World.setCell _ _ _ = w5 at *
  obtain ⟨⟨u0, u1, u2, u3⟩, _⟩ := at4 hm1'
  obtain ⟨⟨p0, p1, p2, p3⟩, _⟩ := at4 hm2
  exact bodyPost_ret (v := .tuple #[.agg #[.int .i64 0, .int .i64 rev, .string ⟨#[]⟩, .slice A2 n2 c2], .agg #[.string ⟨#[]⟩, .string ⟨#[]⟩, .int .i64 0, .bool false], .bool false]) (by simp [results, Tryz.results43, go_sem, u0, u1, u2, u3, p0, p1, p2, p3]) rfl ⟨_, _, _, by rw [HP.out]; rfl, by rw [HP.out]; exact own_lower hown' (by omega), hb'⟩
set_option maxRecDepth 100000 in
set_option maxHeartbeats 4000000 in
theorem plan_bad {g b N : Nat} {rev : Int} {l : List It} (ki : Int) (k v i : ByteArray) (r j : Int) (w : World) (hst : IsSt w g b N rev l) (h1k : ki ≠ 1) (h2k : ki ≠ 2) (hbad : ki < 3 ∨ 5 < ki) :
    Calls Tryz.prog 43 #[.pointer (some ⟨g, 0, none⟩), .agg #[.int .i64 ki, .string k, .string v, .int .i64 r, .string i, .int .i64 j]] w fun x w' => PlanR w w' (planP rev l ⟨ki, k, v, r, i, j⟩) x := by
  have hp : planP rev l ⟨ki, k, v, r, i, j⟩ = ⟨⟨1, 0, ⟨#[]⟩, []⟩, Eff.zero, false⟩ := by simp [planP, h1k, h2k, hbad]
  have HP := Lib.hid hp
  clear hp
  have hk1 : (ki == 1) = false := beq_eq_false_iff_ne.mpr h1k
  have hk2 : (ki == 2) = false := beq_eq_false_iff_ne.mpr h2k
  clear h1k h2k
  by_cases h3 : ki < 3
  · clear hbad
    obtain ⟨h0, h1, h2, hb⟩ := three_at w 49 [.int .i64 ki, .string k, .string v, .int .i64 r, .string i, .int .i64 j] 58 [.int .i64 0, .int .i64 0, .string ⟨#[]⟩, .slice none 0 0] 115 [.string ⟨#[]⟩, .string ⟨#[]⟩, .int .i64 0, .bool false]
    have HST := Lib.hid (hst.step hb)
    clear hst
    go_enter Tryz.func43, Tryz.ntmps43
    go_upto_region 1 with fail
    generalize hW1 : World.alloc (World.alloc (World.alloc w _) _) _ = w1 at *
    have hsz : w.heap.size + 3 ≤ w1.heap.size := by rw [← hW1]; simp
    clear hW1
    obtain ⟨⟨x0, x1, x2, x3, x4, x5⟩, xf⟩ := at6 h0
    obtain ⟨⟨u0, u1, u2, u3⟩, v0, v1, v2, v3⟩ := at4 h1
    obtain ⟨⟨p0, p1, p2, p3⟩, q0, q1, q2, q3⟩ := at4 h2
    go_wp2_with fail
    obtain ⟨hm1, hG1⟩ := At.many [(0, .int .i64 1), (1, .int .i64 0), (2, .string ⟨#[]⟩), (3, .slice none 0 0)] h1
    have h2' := h2.only hG1 (by omega)
    obtain ⟨hm2, hG2⟩ := At.many [(0, .string ⟨#[]⟩), (1, .string ⟨#[]⟩), (2, .int .i64 0), (3, .bool false)] h2'
    have hm1' := hm1.only hG2 (by omega)
    have hown' := own_mod (own_mod (show OwnI _ _ _ _ _ _ from OwnI.nil (w := w1) (B := w1.heap.size)) (grown_mod hG1) (fun i o _ hi _ e => by injection e with e; omega)) (grown_mod hG2) (fun i o _ hi _ e => by injection e with e; omega)
    have hb' := (hb.trans ((Below.refl w.heap.size _).grown hG1 hb.size (by intro i hi; injection hi with hi; omega))).trans ((Below.refl w.heap.size _).grown hG2 (Nat.le_trans hb.size hG1.size) (by intro i hi; injection hi with hi; omega))
    dsimp only [setMany, setL, List.set] at hm1' hm2 hb' hown'
    clear u0 u1 u2 u3 v0 v1 v2 v3 p0 p1 p2 p3 q0 q1 q2 q3 hG1 hG2 hm1 h1 h2 h2' hb
    generalize World.setCell _ _ _ = w5 at *
    obtain ⟨⟨u0, u1, u2, u3⟩, _⟩ := at4 hm1'
    obtain ⟨⟨p0, p1, p2, p3⟩, _⟩ := at4 hm2
    exact bodyPost_ret (v := .tuple #[.agg #[.int .i64 1, .int .i64 0, .string ⟨#[]⟩, .slice none 0 0], .agg #[.string ⟨#[]⟩, .string ⟨#[]⟩, .int .i64 0, .bool false], .bool false]) (by simp [results, Tryz.results43, go_sem, u0, u1, u2, u3, p0, p1, p2, p3]) rfl ⟨_, _, _, by rw [HP.out]; rfl, by rw [HP.out]; exact own_lower hown' (by omega), hb'⟩
  · have h5 : 5 < ki := by omega
    clear hbad
    obtain ⟨h0, h1, h2, hb⟩ := three_at w 49 [.int .i64 ki, .string k, .string v, .int .i64 r, .string i, .int .i64 j] 58 [.int .i64 0, .int .i64 0, .string ⟨#[]⟩, .slice none 0 0] 115 [.string ⟨#[]⟩, .string ⟨#[]⟩, .int .i64 0, .bool false]
    have HST := Lib.hid (hst.step hb)
    clear hst
    go_enter Tryz.func43, Tryz.ntmps43
    go_upto_region 1 with fail
    generalize hW1 : World.alloc (World.alloc (World.alloc w _) _) _ = w1 at *
    have hsz : w.heap.size + 3 ≤ w1.heap.size := by rw [← hW1]; simp
    clear hW1
    obtain ⟨⟨x0, x1, x2, x3, x4, x5⟩, xf⟩ := at6 h0
    obtain ⟨⟨u0, u1, u2, u3⟩, v0, v1, v2, v3⟩ := at4 h1
    obtain ⟨⟨p0, p1, p2, p3⟩, q0, q1, q2, q3⟩ := at4 h2
    go_wp2_with fail
    obtain ⟨hm1, hG1⟩ := At.many [(0, .int .i64 1), (1, .int .i64 0), (2, .string ⟨#[]⟩), (3, .slice none 0 0)] h1
    have h2' := h2.only hG1 (by omega)
    obtain ⟨hm2, hG2⟩ := At.many [(0, .string ⟨#[]⟩), (1, .string ⟨#[]⟩), (2, .int .i64 0), (3, .bool false)] h2'
    have hm1' := hm1.only hG2 (by omega)
    have hown' := own_mod (own_mod (show OwnI _ _ _ _ _ _ from OwnI.nil (w := w1) (B := w1.heap.size)) (grown_mod hG1) (fun i o _ hi _ e => by injection e with e; omega)) (grown_mod hG2) (fun i o _ hi _ e => by injection e with e; omega)
    have hb' := (hb.trans ((Below.refl w.heap.size _).grown hG1 hb.size (by intro i hi; injection hi with hi; omega))).trans ((Below.refl w.heap.size _).grown hG2 (Nat.le_trans hb.size hG1.size) (by intro i hi; injection hi with hi; omega))
    dsimp only [setMany, setL, List.set] at hm1' hm2 hb' hown'
    clear u0 u1 u2 u3 v0 v1 v2 v3 p0 p1 p2 p3 q0 q1 q2 q3 hG1 hG2 hm1 h1 h2 h2' hb
    generalize World.setCell _ _ _ = w5 at *
    obtain ⟨⟨u0, u1, u2, u3⟩, _⟩ := at4 hm1'
    obtain ⟨⟨p0, p1, p2, p3⟩, _⟩ := at4 hm2
    exact bodyPost_ret (v := .tuple #[.agg #[.int .i64 1, .int .i64 0, .string ⟨#[]⟩, .slice none 0 0], .agg #[.string ⟨#[]⟩, .string ⟨#[]⟩, .int .i64 0, .bool false], .bool false]) (by simp [results, Tryz.results43, go_sem, u0, u1, u2, u3, p0, p1, p2, p3]) rfl ⟨_, _, _, by rw [HP.out]; rfl, by rw [HP.out]; exact own_lower hown' (by omega), hb'⟩
set_option maxRecDepth 100000 in
set_option maxHeartbeats 4000000 in
theorem plan_no {g b N : Nat} {rev : Int} {l : List It} (ki : Int) (k v i : ByteArray) (r j : Int) (w : World) (hst : IsSt w g b N rev l) (hks : k.size ≤ maxLen) (his : i.size ≤ maxLen) (h3 : 3 ≤ ki) (h5 : ki ≤ 5) (hme : mayE l ⟨ki, k, v, r, i, j⟩ ≠ 0) :
    Calls Tryz.prog 43 #[.pointer (some ⟨g, 0, none⟩), .agg #[.int .i64 ki, .string k, .string v, .int .i64 r, .string i, .int .i64 j]] w fun x w' => PlanR w w' (planP rev l ⟨ki, k, v, r, i, j⟩) x := by
  obtain ⟨e, he⟩ : ∃ e, mayE l ⟨ki, k, v, r, i, j⟩ = e := ⟨_, rfl⟩
  have hp : planP rev l ⟨ki, k, v, r, i, j⟩ = ⟨⟨e, 0, ⟨#[]⟩, []⟩, Eff.zero, false⟩ := by
    unfold planP
    simp only
    rw [if_neg (by omega), if_neg (by omega), if_neg (by omega), if_pos hme, he]
  rw [he] at hme
  have HP := Lib.hid hp
  clear hp
  have hk1 : (ki == 1) = false := beq_eq_false_iff_ne.mpr (by omega)
  have hk2 : (ki == 2) = false := beq_eq_false_iff_ne.mpr (by omega)
  have heb : (e == 0) = false := beq_eq_false_iff_ne.mpr hme
  obtain ⟨h0, h1, h2, hb⟩ := three_at w 49 [.int .i64 ki, .string k, .string v, .int .i64 r, .string i, .int .i64 j] 58 [.int .i64 0, .int .i64 0, .string ⟨#[]⟩, .slice none 0 0] 115 [.string ⟨#[]⟩, .string ⟨#[]⟩, .int .i64 0, .bool false]
  have HST := Lib.hid (hst.step hb)
  clear hst
  go_enter Tryz.func43, Tryz.ntmps43
  go_upto_region 1 with fail
  generalize hW1 : World.alloc (World.alloc (World.alloc w _) _) _ = w1 at *
  have hsz : w.heap.size + 3 ≤ w1.heap.size := by rw [← hW1]; simp
  clear hW1
  obtain ⟨⟨x0, x1, x2, x3, x4, x5⟩, xf⟩ := at6 h0
  have hmay := may_any ki k v i r j w1 HST.out hks his
  rw [he] at hmay
  have HMAY := Lib.hid hmay
  clear hmay
  go_upto_region 8 with (((with_reducible refine calls_id ?_); refine HMAY.out.mono ?_; rintro y w2 ⟨rfl, hb2⟩))
  replace hb := chain hb hb2
  replace h1 := h1.below hb2
  replace h2 := h2.below hb2
  have hs2 := hb2.size
  clear hb2
  obtain ⟨⟨u0, u1, u2, u3⟩, v0, v1, v2, v3⟩ := at4 h1
  obtain ⟨⟨p0, p1, p2, p3⟩, q0, q1, q2, q3⟩ := at4 h2
  go_wp2_with fail
  obtain ⟨hm1, hG1⟩ := At.many [(0, .int .i64 e), (1, .int .i64 0), (2, .string ⟨#[]⟩), (3, .slice none 0 0)] h1
  have h2' := h2.only hG1 (by omega)
  obtain ⟨hm2, hG2⟩ := At.many [(0, .string ⟨#[]⟩), (1, .string ⟨#[]⟩), (2, .int .i64 0), (3, .bool false)] h2'
  have hm1' := hm1.only hG2 (by omega)
  have hown' := own_mod (own_mod (show OwnI _ _ _ _ _ _ from OwnI.nil (w := w2) (B := w2.heap.size)) (grown_mod hG1) (fun i o _ hi _ e => by injection e with e; omega)) (grown_mod hG2) (fun i o _ hi _ e => by injection e with e; omega)
  have hb' := (hb.trans ((Below.refl w.heap.size _).grown hG1 hb.size (by intro i hi; injection hi with hi; omega))).trans ((Below.refl w.heap.size _).grown hG2 (Nat.le_trans hb.size hG1.size) (by intro i hi; injection hi with hi; omega))
  dsimp only [setMany, setL, List.set] at hm1' hm2 hb' hown'
  clear u0 u1 u2 u3 v0 v1 v2 v3 p0 p1 p2 p3 q0 q1 q2 q3 hG1 hG2 hm1 h1 h2 h2' hb
  generalize World.setCell _ _ _ = w5 at *
  obtain ⟨⟨u0, u1, u2, u3⟩, _⟩ := at4 hm1'
  obtain ⟨⟨p0, p1, p2, p3⟩, _⟩ := at4 hm2
  exact bodyPost_ret (v := .tuple #[.agg #[.int .i64 e, .int .i64 0, .string ⟨#[]⟩, .slice none 0 0], .agg #[.string ⟨#[]⟩, .string ⟨#[]⟩, .int .i64 0, .bool false], .bool false]) (by simp [results, Tryz.results43, go_sem, u0, u1, u2, u3, p0, p1, p2, p3]) rfl ⟨_, _, _, by rw [HP.out]; rfl, by rw [HP.out]; exact own_lower hown' (by omega), hb'⟩
end Go.Proofs.YtnkjekkdndjfaaaGreat
namespace Go.Proofs.YtnkjekkdndjfaaaGreat
set_option linter.unusedVariables false
set_option linter.unusedSimpArgs false
open Go.RowKit
set_option maxRecDepth 100000 in
set_option maxHeartbeats 4000000 in
theorem plan_put {g b N : Nat} {rev : Int} {l : List It} (ki : Int) (k v i : ByteArray) (r j : Int) (w : World) (hst : IsSt w g b N rev l) (hks : k.size ≤ maxLen) (his : i.size ≤ maxLen) (h3 : 3 ≤ ki) (h5 : ki < 5) (hme : mayE l ⟨ki, k, v, r, i, j⟩ = 0) :
    Calls Tryz.prog 43 #[.pointer (some ⟨g, 0, none⟩), .agg #[.int .i64 ki, .string k, .string v, .int .i64 r, .string i, .int .i64 j]] w fun x w' => PlanR w w' (planP rev l ⟨ki, k, v, r, i, j⟩) x := by
  obtain ⟨ir, hir⟩ : ∃ ir, IntKind.i64.wrap (rev + 1) = ir := ⟨_, rfl⟩
  have hp : planP rev l ⟨ki, k, v, r, i, j⟩ = ⟨⟨0, ir, ⟨#[]⟩, []⟩, ⟨k, v, ir, false⟩, true⟩ := by
    unfold planP inc
    simp only
    rw [if_neg (by omega), if_neg (by omega), if_neg (by omega), if_neg (by simp [hme]), hir, if_neg (by omega), decide_eq_false (by omega)]
  have HP := Lib.hid hp
  clear hp
  have hk1 : (ki == 1) = false := beq_eq_false_iff_ne.mpr (by omega)
  have hk2 : (ki == 2) = false := beq_eq_false_iff_ne.mpr (by omega)
  have hk5 : (ki == 5) = false := beq_eq_false_iff_ne.mpr (by omega)
  obtain ⟨h0, h1, h2, hb⟩ := three_at w 49 [.int .i64 ki, .string k, .string v, .int .i64 r, .string i, .int .i64 j] 58 [.int .i64 0, .int .i64 0, .string ⟨#[]⟩, .slice none 0 0] 115 [.string ⟨#[]⟩, .string ⟨#[]⟩, .int .i64 0, .bool false]
  have HST := Lib.hid (hst.step hb)
  clear hst
  go_enter Tryz.func43, Tryz.ntmps43
  go_upto_region 1 with fail
  generalize hW1 : World.alloc (World.alloc (World.alloc w _) _) _ = w1 at *
  have hsz : w.heap.size + 3 ≤ w1.heap.size := by rw [← hW1]; simp
  clear hW1
  obtain ⟨⟨x0, x1, x2, x3, x4, x5⟩, xf⟩ := at6 h0
  have hmay := may_any ki k v i r j w1 HST.out hks his
  rw [hme] at hmay
  have HMAY := Lib.hid hmay
  clear hmay
  go_upto_region 10 with (((with_reducible refine calls_id ?_); refine HMAY.out.mono ?_; rintro y w2 ⟨rfl, hb2⟩))
  replace hb := chain hb hb2
  replace h0 := h0.below hb2
  replace h1 := h1.below hb2
  replace h2 := h2.below hb2
  have HST := Lib.hid (HST.out.step hb2)
  replace hsz : w.heap.size + 3 ≤ w2.heap.size := Nat.le_trans hsz hb2.size
  clear hb2 x0 x1 x2 x3 x4 x5 xf HMAY
  refine region_any (by kernel_rfl) ?_
  change wpAny _ _ _ _ _ _ _ (World.drew _)
  replace h0 := h0.drew
  replace h1 := h1.drew
  replace h2 := h2.drew
  replace hb := hb.drew
  have HST := Lib.hid HST.out.drew
  replace hsz : w.heap.size + 3 ≤ w2.drew.heap.size := hsz
  generalize World.drew _ = w3 at *
  obtain ⟨⟨x0, x1, x2, x3, x4, x5⟩, xf⟩ := at6 h0
  obtain ⟨⟨s0, s1⟩, sf⟩ := at2 HST.out.at_
  have l0 := h0.lt
  have l1 := HST.out.lt.1
  refine stage 14 ?_
  refine tag [0,1,2,3,4,5,6,7,8,9,10,11,12] ?_
  iterate 13 (
    refine sR (v := ?_) rfl (by kernel_rfl) (fun _ _ _ h => h) (Or.inl ⟨by kernel_rfl, ?_⟩) ?_
    rotate_left
    · (intro wS hwS; obtain ⟨hcS, hfS, hhS⟩ := bcell hwS; go_simp; try (first | (with_reducible rfl) | rw [if_pos (by omega)] | rw [if_neg (by omega)]))
    try simp only [PT])
  refine tagN ?_
  refine stage_one 13 (by kernel_rfl) rfl (by kernel_rfl) (fun K hK => ?_)
  go_simp
  obtain ⟨h8, hb3⟩ := one_at w3 115 [.string ⟨#[]⟩, .string ⟨#[]⟩, .int .i64 0, .bool false]
  refine hK.out _ _ (hb3) ?_
  clear hK K
  try simp only [PT]
  replace h1 := h1.below hb3
  replace h2 := h2.below hb3
  replace hb := chain hb hb3
  clear hb3 x0 x1 x2 x3 x4 x5 xf s0 s1 sf l0 l1 HST h0
  obtain ⟨g8, hg8⟩ : ∃ g8, w3.heap.size = g8 := ⟨_, rfl⟩
  rw [hg8] at h8 hsz ⊢
  generalize World.alloc _ _ = w4 at *
  clear hg8
  obtain ⟨⟨y0, y1, y2, y3⟩, z0, z1, z2, z3⟩ := at4 h8

  refine stage_end (by kernel_rfl) rfl (fun K hK => ?_)
  go_simp
  refine hK.out _ _ ?_
  clear hK K
  try simp only [PT]
  first | refine wpAnyT_done (by kernel_rfl) ?_ _ | refine wpAny_done (by kernel_rfl) ?_ _
  obtain ⟨hm, hG⟩ := At.many [(0, .string k), (1, .string v), (2, .int .i64 ir), (3, .bool false)] h8
  dsimp only [setMany, setL, List.set] at hm hG
  replace h1 := h1.only hG (by omega)
  replace h2 := h2.only hG (by omega)
  replace hb := hb.trans ((Below.refl w.heap.size w4).grown hG hb.size (by intro i hi; injection hi with hi; omega))
  clear h8 y0 y1 y2 y3 z0 z1 z2 z3 hG
  generalize World.setCell _ _ _ = w5 at *
  have h8 := hm
  obtain ⟨⟨y0, y1, y2, y3⟩, z0, z1, z2, z3⟩ := at4 hm
  clear hm
  go_upto_region 13 with fail
  clear y0 y1 y2 y3 z0 z1 z2 z3
  have k0 : ∀ w' : World, At w' g8 115 [.string k, .string v, .int .i64 ir, .bool false] → _ := fun w' h => (at4 h).1.1
  have k1 : ∀ w' : World, At w' g8 115 [.string k, .string v, .int .i64 ir, .bool false] → _ := fun w' h => (at4 h).1.2.1
  have k2 : ∀ w' : World, At w' g8 115 [.string k, .string v, .int .i64 ir, .bool false] → _ := fun w' h => (at4 h).1.2.2.1
  have k3 : ∀ w' : World, At w' g8 115 [.string k, .string v, .int .i64 ir, .bool false] → _ := fun w' h => (at4 h).1.2.2.2
  refine region_begin (fun w' => At w' g8 115 [.string k, .string v, .int .i64 ir, .bool false]) (by kernel_rfl) (h8.drew) (fun hHeld => ?_)
  replace h1 := h1.drew
  replace h2 := h2.drew
  replace hb := hb.drew
  clear h8
  generalize World.drew _ = w6 at *
  refine tag [0,1,2,3] ?_
  iterate 4 (
    refine sH (v := ?_) rfl (by kernel_rfl) (fun _ _ _ h => h) (Or.inl ⟨by kernel_rfl, ?_⟩) (by assumption) ?_
    rotate_left
    · (intro wS hwS; (try dsimp only at hwS); go_simp; try (first | (with_reducible rfl) | rw [if_pos (by omega)] | rw [if_neg (by omega)]))
    try simp only [PT])
  refine tagN ?_
  obtain ⟨⟨u0, u1, u2, u3⟩, v0, v1, v2, v3⟩ := at4 h1
  refine region_one 4 (by kernel_rfl) rfl (fun K hK => ?_)
  go_simp
  obtain ⟨hm1, hG1⟩ := At.many [(0, .int .i64 0), (1, .int .i64 ir), (2, .string ⟨#[]⟩), (3, .slice none 0 0)] h1
  dsimp only [setMany, setL, List.set] at hm1 hG1
  replace h2 := h2.only hG1 (by omega)
  have h8 := hHeld.only hG1 (by omega)
  replace hb := hb.trans ((Below.refl w.heap.size w6).grown hG1 hb.size (by intro i hi; injection hi with hi; omega))
  clear u0 u1 u2 u3 v0 v1 v2 v3 h1 hG1 hHeld
  generalize World.setCell _ _ _ = w7 at *
  refine hK.out _ _ (fun w' => At w' g8 115 [.string k, .string v, .int .i64 ir, .bool false]) (h8) (fun _ h => h) (fun hHeld => ?_)
  clear hK K
  try simp only [PT]
  obtain ⟨⟨p0, p1, p2, p3⟩, q0, q1, q2, q3⟩ := at4 h2
  refine region_one 5 (by kernel_rfl) rfl (fun K hK => ?_)
  go_simp
  obtain ⟨hm2, hG2⟩ := At.many [(0, .string k), (1, .string v), (2, .int .i64 ir), (3, .bool false)] h2
  dsimp only [setMany, setL, List.set] at hm2 hG2
  replace hm1 := hm1.only hG2 (by omega)
  replace h8 := hHeld.only hG2 (by omega)
  replace hb := hb.trans ((Below.refl w.heap.size w7).grown hG2 hb.size (by intro i hi; injection hi with hi; omega))
  clear p0 p1 p2 p3 q0 q1 q2 q3 h2 hG2 hHeld
  generalize World.setCell _ _ _ = w8 at *
  refine hK.out _ _ (fun w' => At w' g8 115 [.string k, .string v, .int .i64 ir, .bool false]) (h8) (fun _ h => h) (fun hHeld => ?_)
  clear hK K
  try simp only [PT]
  refine tag [6] ?_
  refine sH (v := ?_) rfl (by kernel_rfl) (fun _ _ _ h => h) (Or.inl ⟨by kernel_rfl, ?_⟩) (by assumption) ?_
  rotate_left
  · (intro wS hwS; (try dsimp only at hwS); go_simp; try (first | (with_reducible rfl) | rw [if_pos (by omega)] | rw [if_neg (by omega)]))
  try simp only [PT]
  refine tagN ?_
  refine wpAnyH_done (by kernel_rfl) ?_ _
  clear k0 k1 k2 k3 hHeld h8
  obtain ⟨⟨u0, u1, u2, u3⟩, _⟩ := at4 hm1
  obtain ⟨⟨p0, p1, p2, p3⟩, _⟩ := at4 hm2
  go_wp2_with fail
  exact bodyPost_ret (v := .tuple #[.agg #[.int .i64 0, .int .i64 ir, .string ⟨#[]⟩, .slice none 0 0], .agg #[.string k, .string v, .int .i64 ir, .bool false], .bool true]) (by simp [results, Tryz.results43, go_sem, u0, u1, u2, u3, p0, p1, p2, p3]) rfl ⟨none, 0, 0, by rw [HP.out], by rw [HP.out]; exact OwnI.nil, hb⟩
set_option maxRecDepth 100000 in
set_option maxHeartbeats 4000000 in
theorem plan_del {g b N : Nat} {rev : Int} {l : List It} (k v i : ByteArray) (r j : Int) (w : World) (hst : IsSt w g b N rev l) (hks : k.size ≤ maxLen) (his : i.size ≤ maxLen) (hme : mayE l ⟨5, k, v, r, i, j⟩ = 0) :
    Calls Tryz.prog 43 #[.pointer (some ⟨g, 0, none⟩), .agg #[.int .i64 5, .string k, .string v, .int .i64 r, .string i, .int .i64 j]] w fun x w' => PlanR w w' (planP rev l ⟨5, k, v, r, i, j⟩) x := by
  obtain ⟨ki, hki⟩ : ∃ ki : Int, ki = 5 := ⟨_, rfl⟩
  rw [← hki] at hme ⊢
  obtain ⟨ir, hir⟩ : ∃ ir, IntKind.i64.wrap (rev + 1) = ir := ⟨_, rfl⟩
  have hp : planP rev l ⟨ki, k, v, r, i, j⟩ = ⟨⟨0, ir, ⟨#[]⟩, []⟩, ⟨k, ⟨#[]⟩, ir, true⟩, true⟩ := by
    unfold planP inc
    simp only
    rw [if_neg (by omega), if_neg (by omega), if_neg (by omega), if_neg (by simp [hme]), hir, if_pos hki, decide_eq_true hki]
  have HP := Lib.hid hp
  clear hp
  have hk1 : (ki == 1) = false := beq_eq_false_iff_ne.mpr (by omega)
  have hk2 : (ki == 2) = false := beq_eq_false_iff_ne.mpr (by omega)
  have hk5 : (ki == 5) = true := by rw [hki]; rfl
  have hk5' : ¬ 5 < ki := by omega
  have hk3' : ¬ ki < 3 := by omega
  clear hki
  obtain ⟨h0, h1, h2, hb⟩ := three_at w 49 [.int .i64 ki, .string k, .string v, .int .i64 r, .string i, .int .i64 j] 58 [.int .i64 0, .int .i64 0, .string ⟨#[]⟩, .slice none 0 0] 115 [.string ⟨#[]⟩, .string ⟨#[]⟩, .int .i64 0, .bool false]
  have HST := Lib.hid (hst.step hb)
  clear hst
  go_enter Tryz.func43, Tryz.ntmps43
  go_upto_region 1 with fail
  generalize hW1 : World.alloc (World.alloc (World.alloc w _) _) _ = w1 at *
  have hsz : w.heap.size + 3 ≤ w1.heap.size := by rw [← hW1]; simp
  clear hW1
  obtain ⟨⟨x0, x1, x2, x3, x4, x5⟩, xf⟩ := at6 h0
  have hmay := may_any ki k v i r j w1 HST.out hks his
  rw [hme] at hmay
  have HMAY := Lib.hid hmay
  clear hmay
  go_upto_region 10 with (((with_reducible refine calls_id ?_); refine HMAY.out.mono ?_; rintro y w2 ⟨rfl, hb2⟩))
  replace hb := chain hb hb2
  replace h0 := h0.below hb2
  replace h1 := h1.below hb2
  replace h2 := h2.below hb2
  have HST := Lib.hid (HST.out.step hb2)
  replace hsz : w.heap.size + 3 ≤ w2.heap.size := Nat.le_trans hsz hb2.size
  clear hb2 x0 x1 x2 x3 x4 x5 xf HMAY
  refine region_any (by kernel_rfl) ?_
  change wpAny _ _ _ _ _ _ _ (World.drew _)
  replace h0 := h0.drew
  replace h1 := h1.drew
  replace h2 := h2.drew
  replace hb := hb.drew
  have HST := Lib.hid HST.out.drew
  replace hsz : w.heap.size + 3 ≤ w2.drew.heap.size := hsz
  generalize World.drew _ = w3 at *
  obtain ⟨⟨x0, x1, x2, x3, x4, x5⟩, xf⟩ := at6 h0
  obtain ⟨⟨s0, s1⟩, sf⟩ := at2 HST.out.at_
  have l0 := h0.lt
  have l1 := HST.out.lt.1
  refine stage 14 ?_
  refine tag [0,1,2,3,4,5,6,7,8,9,10,11,12] ?_
  iterate 13 (
    refine sR (v := ?_) rfl (by kernel_rfl) (fun _ _ _ h => h) (Or.inl ⟨by kernel_rfl, ?_⟩) ?_
    rotate_left
    · (intro wS hwS; obtain ⟨hcS, hfS, hhS⟩ := bcell hwS; go_simp; try (first | (with_reducible rfl) | rw [if_pos (by omega)] | rw [if_neg (by omega)]))
    try simp only [PT])
  refine tagN ?_
  refine stage_one 13 (by kernel_rfl) rfl (by kernel_rfl) (fun K hK => ?_)
  go_simp
  obtain ⟨h8, hb3⟩ := one_at w3 115 [.string ⟨#[]⟩, .string ⟨#[]⟩, .int .i64 0, .bool false]
  refine hK.out _ _ (hb3) ?_
  clear hK K
  try simp only [PT]
  replace h1 := h1.below hb3
  replace h2 := h2.below hb3
  replace hb := chain hb hb3
  clear hb3 x0 x1 x2 x3 x4 x5 xf s0 s1 sf l0 l1 HST h0
  obtain ⟨g8, hg8⟩ : ∃ g8, w3.heap.size = g8 := ⟨_, rfl⟩
  rw [hg8] at h8 hsz ⊢
  generalize World.alloc _ _ = w4 at *
  clear hg8
  obtain ⟨⟨y0, y1, y2, y3⟩, z0, z1, z2, z3⟩ := at4 h8

  refine stage_end (by kernel_rfl) rfl (fun K hK => ?_)
  go_simp
  refine hK.out _ _ ?_
  clear hK K
  try simp only [PT]
  first | refine wpAnyT_done (by kernel_rfl) ?_ _ | refine wpAny_done (by kernel_rfl) ?_ _
  obtain ⟨hm, hG⟩ := At.many [(0, .string k), (1, .string v), (2, .int .i64 ir), (3, .bool true)] h8
  dsimp only [setMany, setL, List.set] at hm hG
  replace h1 := h1.only hG (by omega)
  replace h2 := h2.only hG (by omega)
  replace hb := hb.trans ((Below.refl w.heap.size w4).grown hG hb.size (by intro i hi; injection hi with hi; omega))
  clear h8 y0 y1 y2 y3 z0 z1 z2 z3 hG
  generalize World.setCell _ _ _ = w5 at *
  have h8 := hm
  obtain ⟨⟨y0, y1, y2, y3⟩, z0, z1, z2, z3⟩ := at4 hm
  clear hm
  go_upto_region 13 with fail
  have hS := grown_set w5 g8 1 (.string ⟨#[]⟩)
  replace h1 := h1.only hS (by omega)
  replace h2 := h2.only hS (by omega)
  replace hb := hb.trans ((Below.refl w.heap.size w5).grown hS hb.size (by intro i hi; injection hi with hi; omega))
  replace h8 := h8.set 1 (.string ⟨#[]⟩)
  dsimp only [List.set] at h8
  clear y0 y1 y2 y3 z0 z1 z2 z3 hS
  generalize World.setCell _ _ _ = w9 at *
  have k0 : ∀ w' : World, At w' g8 115 [.string k, .string ⟨#[]⟩, .int .i64 ir, .bool true] → _ := fun w' h => (at4 h).1.1
  have k1 : ∀ w' : World, At w' g8 115 [.string k, .string ⟨#[]⟩, .int .i64 ir, .bool true] → _ := fun w' h => (at4 h).1.2.1
  have k2 : ∀ w' : World, At w' g8 115 [.string k, .string ⟨#[]⟩, .int .i64 ir, .bool true] → _ := fun w' h => (at4 h).1.2.2.1
  have k3 : ∀ w' : World, At w' g8 115 [.string k, .string ⟨#[]⟩, .int .i64 ir, .bool true] → _ := fun w' h => (at4 h).1.2.2.2
  refine region_begin (fun w' => At w' g8 115 [.string k, .string ⟨#[]⟩, .int .i64 ir, .bool true]) (by kernel_rfl) (h8.drew) (fun hHeld => ?_)
  replace h1 := h1.drew
  replace h2 := h2.drew
  replace hb := hb.drew
  clear h8
  generalize World.drew _ = w6 at *
  refine tag [0,1,2,3] ?_
  iterate 4 (
    refine sH (v := ?_) rfl (by kernel_rfl) (fun _ _ _ h => h) (Or.inl ⟨by kernel_rfl, ?_⟩) (by assumption) ?_
    rotate_left
    · (intro wS hwS; (try dsimp only at hwS); go_simp; try (first | (with_reducible rfl) | rw [if_pos (by omega)] | rw [if_neg (by omega)]))
    try simp only [PT])
  refine tagN ?_
  obtain ⟨⟨u0, u1, u2, u3⟩, v0, v1, v2, v3⟩ := at4 h1
  refine region_one 4 (by kernel_rfl) rfl (fun K hK => ?_)
  go_simp
  obtain ⟨hm1, hG1⟩ := At.many [(0, .int .i64 0), (1, .int .i64 ir), (2, .string ⟨#[]⟩), (3, .slice none 0 0)] h1
  dsimp only [setMany, setL, List.set] at hm1 hG1
  replace h2 := h2.only hG1 (by omega)
  have h8 := hHeld.only hG1 (by omega)
  replace hb := hb.trans ((Below.refl w.heap.size w6).grown hG1 hb.size (by intro i hi; injection hi with hi; omega))
  clear u0 u1 u2 u3 v0 v1 v2 v3 h1 hG1 hHeld
  generalize World.setCell _ _ _ = w7 at *
  refine hK.out _ _ (fun w' => At w' g8 115 [.string k, .string ⟨#[]⟩, .int .i64 ir, .bool true]) (h8) (fun _ h => h) (fun hHeld => ?_)
  clear hK K
  try simp only [PT]
  obtain ⟨⟨p0, p1, p2, p3⟩, q0, q1, q2, q3⟩ := at4 h2
  refine region_one 5 (by kernel_rfl) rfl (fun K hK => ?_)
  go_simp
  obtain ⟨hm2, hG2⟩ := At.many [(0, .string k), (1, .string ⟨#[]⟩), (2, .int .i64 ir), (3, .bool true)] h2
  dsimp only [setMany, setL, List.set] at hm2 hG2
  replace hm1 := hm1.only hG2 (by omega)
  replace h8 := hHeld.only hG2 (by omega)
  replace hb := hb.trans ((Below.refl w.heap.size w7).grown hG2 hb.size (by intro i hi; injection hi with hi; omega))
  clear p0 p1 p2 p3 q0 q1 q2 q3 h2 hG2 hHeld
  generalize World.setCell _ _ _ = w8 at *
  refine hK.out _ _ (fun w' => At w' g8 115 [.string k, .string ⟨#[]⟩, .int .i64 ir, .bool true]) (h8) (fun _ h => h) (fun hHeld => ?_)
  clear hK K
  try simp only [PT]
  refine tag [6] ?_
  refine sH (v := ?_) rfl (by kernel_rfl) (fun _ _ _ h => h) (Or.inl ⟨by kernel_rfl, ?_⟩) (by assumption) ?_
  rotate_left
  · (intro wS hwS; (try dsimp only at hwS); go_simp; try (first | (with_reducible rfl) | rw [if_pos (by omega)] | rw [if_neg (by omega)]))
  try simp only [PT]
  refine tagN ?_
  refine wpAnyH_done (by kernel_rfl) ?_ _
  clear k0 k1 k2 k3 hHeld h8
  obtain ⟨⟨u0, u1, u2, u3⟩, _⟩ := at4 hm1
  obtain ⟨⟨p0, p1, p2, p3⟩, _⟩ := at4 hm2
  go_wp2_with fail
  exact bodyPost_ret (v := .tuple #[.agg #[.int .i64 0, .int .i64 ir, .string ⟨#[]⟩, .slice none 0 0], .agg #[.string k, .string ⟨#[]⟩, .int .i64 ir, .bool true], .bool true]) (by simp [results, Tryz.results43, go_sem, u0, u1, u2, u3, p0, p1, p2, p3]) rfl ⟨none, 0, 0, by rw [HP.out], by rw [HP.out]; exact OwnI.nil, hb⟩
/-- Plan, whatever is asked -/
theorem plan_any {g b N : Nat} {rev : Int} {l : List It} (o : Ask) (w : World) (hst : IsSt w g b N rev l) (hN : N ≤ 1000000) (hk : ∀ x ∈ l, x.k.size ≤ 1000) (hks : o.key.size ≤ maxLen) (his : o.iff.size ≤ maxLen) :
    Calls Tryz.prog 43 #[.pointer (some ⟨g, 0, none⟩), o.v] w fun x w' => PlanR w w' (planP rev l o) x := by
  obtain ⟨ki, k, v, r, i, j⟩ := o
  simp only at hks his
  unfold Ask.v Ask.cells
  simp only
  by_cases h1 : ki = 1
  · exact plan_get ki k v i r j w hst hks h1
  · by_cases h2 : ki = 2
    · subst h2; exact plan_list k v i r j w hst hN hk
    · by_cases hb : ki < 3 ∨ 5 < ki
      · exact plan_bad ki k v i r j w hst h1 h2 hb
      · by_cases hm : mayE l ⟨ki, k, v, r, i, j⟩ = 0
        · by_cases h5 : ki = 5
          · subst h5; exact plan_del k v i r j w hst hks his hm
          · exact plan_put ki k v i r j w hst hks his (by omega) (by omega) hm
        · exact plan_no ki k v i r j w hst hks his (by omega) (by omega) hm
end Go.Proofs.YtnkjekkdndjfaaaGreat
