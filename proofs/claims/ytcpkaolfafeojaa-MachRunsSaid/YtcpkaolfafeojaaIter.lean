/- The contracts of slices.Sorted and maps.Keys at this program: each one application of the library's contract over any program. No condition. -/
import Derived.Shelf.SlIter.Nil
import Derived.Shelf.SortM.Plain
import Derived.Shelf.SortM.SortNone
import Derived.Ground.GgzProg
import Derived.Ground.SlgmProg
import Derived.Test.YtcpkaolfafeojaaProg
namespace Go.Proofs.Ytcpkaolfafeojaa
set_option linter.unusedVariables false
set_option linter.unusedSimpArgs false
open Go.Proofs Go.RowKit Go.Maps Go.Sort Go.Shelf
def itKeys_ren : Go.Shelf.Ren := ⟨fun | 7 => 84 | 10 => 88 | n => n, fun | 23 => 125 | 26 => 9 | 3 => 97 | 28 => 144 | 0 => 0 | 27 => 143 | 33 => 131 | 4 => 4 | n => n, fun | n => n⟩
theorem itKeys : Go.Proofs.SlLaysZ.n7 Try.prog itKeys_ren := {
  mixed := by kernel_rfl
  f7 := ⟨Try.f84.name, by decide, Try.func84.trans (congrArg some (by kernel_rfl))⟩
  f10 := ⟨Try.f88.name, by decide, Try.func88.trans (congrArg some (by kernel_rfl))⟩
  t0 := Try.underlying0
  a0 := Try.isAgg0
  z0 := Try.sizeOf0
  v0 := Try.zeroValue0
  t4 := Try.underlying4
  a4 := Try.isAgg4
  z4 := Try.sizeOf4
  v4 := Try.zeroValue4
  t23 := Try.underlying125
  a23 := Try.isAgg125
  z23 := Try.sizeOf125
  v23 := Try.zeroValue125
  t26 := Try.underlying9
  a26 := Try.isAgg9
  z26 := Try.sizeOf9
  v26 := Try.zeroValue9
  t27 := Try.underlying143
  a27 := Try.isAgg143
  z27 := Try.sizeOf143
  v27 := Try.zeroValue143
  t28 := Try.underlying144
  a28 := Try.isAgg144
  z28 := Try.sizeOf144
  v28 := Try.zeroValue144
  t33 := Try.underlying131
  a33 := Try.isAgg131
  z33 := Try.sizeOf131
  v33 := Try.zeroValue131 }
def itSorted_ren : Go.Shelf.Ren := ⟨fun | 6 => 83 | 8 => 86 | 9 => 87 | 11 => 90 | 13 => 92 | 12 => 91 | 23 => 102 | 24 => 103 | 14 => 93 | 15 => 94 | 16 => 95 | 17 => 96 | 18 => 97 | 19 => 98 | 20 => 99 | 21 => 100 | 22 => 101 | 25 => 104 | 26 => 105 | 27 => 106 | 28 => 107 | 29 => 108 | 30 => 109 | 31 => 110 | n => n, fun | 26 => 9 | 28 => 144 | 24 => 141 | 0 => 0 | 3 => 3 | 37 => 140 | 48 => 160 | 50 => 116 | 4 => 4 | 40 => 153 | 39 => 152 | 45 => 157 | 5 => 5 | 9 => 9 | 51 => 162 | 55 => 166 | 57 => 168 | 58 => 169 | 33 => 131 | n => n, fun | n => n⟩
theorem itSorted : Go.Proofs.SlLaysZ.n6 Try.prog itSorted_ren := {
  mixed := by kernel_rfl
  f6 := ⟨Try.f83.name, by decide, Try.func83.trans (congrArg some (by kernel_rfl))⟩
  f8 := ⟨Try.f86.name, by decide, Try.func86.trans (congrArg some (by kernel_rfl))⟩
  f11 := ⟨Try.f90.name, by decide, Try.func90.trans (congrArg some (by kernel_rfl))⟩
  t0 := Try.underlying0
  a0 := Try.isAgg0
  z0 := Try.sizeOf0
  v0 := Try.zeroValue0
  t24 := Try.underlying141
  a24 := Try.isAgg141
  z24 := Try.sizeOf141
  v24 := Try.zeroValue141
  t26 := Try.underlying9
  a26 := Try.isAgg9
  z26 := Try.sizeOf9
  v26 := Try.zeroValue9
  t28 := Try.underlying144
  a28 := Try.isAgg144
  z28 := Try.sizeOf144
  v28 := Try.zeroValue144
  i26 := by kernel_rfl }
def itSort_ren : Go.Shelf.Ren := ⟨fun | 6 => 87 | 8 => 92 | 9 => 91 | 19 => 102 | 20 => 103 | 21 => 93 | 22 => 94 | 23 => 95 | 24 => 96 | 25 => 97 | 26 => 98 | 27 => 99 | 28 => 100 | 29 => 101 | 36 => 104 | 31 => 105 | 32 => 106 | 37 => 107 | 38 => 108 | 39 => 109 | 41 => 110 | n => n, fun | 27 => 141 | 29 => 9 | 3 => 3 | 32 => 140 | 26 => 141 | 0 => 0 | 44 => 160 | 46 => 116 | 4 => 4 | 36 => 153 | 35 => 152 | 41 => 157 | 5 => 5 | 9 => 9 | 53 => 162 | 57 => 166 | 63 => 168 | 64 => 169 | n => n, fun | n => n⟩
theorem itSort : Go.Proofs.SlLaysM.n6 Try.prog itSort_ren := {
  mixed := by kernel_rfl
  f6 := ⟨Try.f87.name, by decide, Try.func87.trans (congrArg some (by kernel_rfl))⟩
  f8 := Try.func92.trans (congrArg some (by kernel_rfl))
  f9 := ⟨Try.f91.name, by decide, Try.func91.trans (congrArg some (by kernel_rfl))⟩
  f19 := Try.func102.trans (congrArg some (by kernel_rfl))
  f20 := Try.func103.trans (congrArg some (by kernel_rfl))
  f21 := ⟨Try.f93.name, by decide, Try.func93.trans (congrArg some (by kernel_rfl))⟩
  f22 := ⟨Try.f94.name, by decide, Try.func94.trans (congrArg some (by kernel_rfl))⟩
  f23 := ⟨Try.f95.name, by decide, Try.func95.trans (congrArg some (by kernel_rfl))⟩
  f24 := ⟨Try.f96.name, by decide, Try.func96.trans (congrArg some (by kernel_rfl))⟩
  f25 := ⟨Try.f97.name, by decide, Try.func97.trans (congrArg some (by kernel_rfl))⟩
  f26 := ⟨Try.f98.name, by decide, Try.func98.trans (congrArg some (by kernel_rfl))⟩
  f27 := ⟨Try.f99.name, by decide, Try.func99.trans (congrArg some (by kernel_rfl))⟩
  f28 := ⟨Try.f100.name, by decide, Try.func100.trans (congrArg some (by kernel_rfl))⟩
  f29 := ⟨Try.f101.name, by decide, Try.func101.trans (congrArg some (by kernel_rfl))⟩
  f31 := Try.func105.trans (congrArg some (by kernel_rfl))
  f32 := Try.func106.trans (congrArg some (by kernel_rfl))
  f36 := ⟨Try.f104.name, by decide, Try.func104.trans (congrArg some (by kernel_rfl))⟩
  f37 := ⟨Try.f107.name, by decide, Try.func107.trans (congrArg some (by kernel_rfl))⟩
  f38 := ⟨Try.f108.name, by decide, Try.func108.trans (congrArg some (by kernel_rfl))⟩
  f39 := ⟨Try.f109.name, by decide, Try.func109.trans (congrArg some (by kernel_rfl))⟩
  f41 := ⟨Try.f110.name, by decide, Try.func110.trans (congrArg some (by kernel_rfl))⟩
  t0 := Try.underlying0
  a0 := Try.isAgg0
  z0 := Try.sizeOf0
  v0 := Try.zeroValue0
  t3 := Try.underlying3
  a3 := Try.isAgg3
  z3 := Try.sizeOf3
  v3 := Try.zeroValue3
  t4 := Try.underlying4
  a4 := Try.isAgg4
  z4 := Try.sizeOf4
  v4 := Try.zeroValue4
  t5 := Try.underlying5
  a5 := Try.isAgg5
  z5 := Try.sizeOf5
  v5 := Try.zeroValue5
  t9 := Try.underlying9
  a9 := Try.isAgg9
  z9 := Try.sizeOf9
  v9 := Try.zeroValue9
  t26 := Try.underlying141
  a26 := Try.isAgg141
  z26 := Try.sizeOf141
  v26 := Try.zeroValue141
  t27 := Try.underlying141
  a27 := Try.isAgg141
  z27 := Try.sizeOf141
  v27 := Try.zeroValue141
  t29 := Try.underlying9
  a29 := Try.isAgg9
  z29 := Try.sizeOf9
  v29 := Try.zeroValue9
  t32 := Try.underlying140
  a32 := Try.isAgg140
  z32 := Try.sizeOf140
  v32 := Try.zeroValue140
  t35 := Try.underlying152
  a35 := Try.isAgg152
  z35 := Try.sizeOf152
  v35 := Try.zeroValue152
  t36 := Try.underlying153
  a36 := Try.isAgg153
  z36 := Try.sizeOf153
  v36 := Try.zeroValue153
  t41 := Try.underlying157
  a41 := Try.isAgg157
  z41 := Try.sizeOf157
  v41 := Try.zeroValue157
  t44 := Try.underlying160
  a44 := Try.isAgg160
  z44 := Try.sizeOf160
  v44 := Try.zeroValue160
  t46 := Try.underlying116
  a46 := Try.isAgg116
  z46 := Try.sizeOf116
  v46 := Try.zeroValue116
  t53 := Try.underlying162
  a53 := Try.isAgg162
  z53 := Try.sizeOf162
  v53 := Try.zeroValue162
  t57 := Try.underlying166
  a57 := Try.isAgg166
  z57 := Try.sizeOf166
  v57 := Try.zeroValue166
  t63 := Try.underlying168
  a63 := Try.isAgg168
  z63 := Try.sizeOf168
  v63 := Try.zeroValue168
  t64 := Try.underlying169
  a64 := Try.isAgg169
  z64 := Try.sizeOf169
  v64 := Try.zeroValue169 }
theorem itSorts (m : Nat) : AnyZ.SortsIn Try.prog itSorted_ren Fence.wide m :=
  ⟨fun blk off cap ss W hH hblk hsz => callsIn_wide.2 (AnyM.slices_Sort_string itSort blk off cap ss W hH hblk hsz),
   fun p cap W => callsIn_wide.2 (AnyM.slices_Sort_string_none itSort p cap W)⟩

theorem mapsKeys_any (mb : Option Nat) (W : World) : CallsIn Fence.wide 5 Try.prog 84 #[.map mb] W fun e w' => e = .returned (.func (.func 88) #[] #[.pointer (some ⟨W.heap.size, 0, none⟩)]) ∧ w' = W.alloc (.cells #[.map mb] 125) :=
  AnyZ.keys_in itKeys Fence.wide 5 trivial rfl mb W

set_option maxHeartbeats 1000000 in
theorem sortedKeys_any {H : Type} (b nn : Nat) (D0 : DataW H) (R : Value → Option (DataW H × List MemPlace)) (w : World) (hown : w.ownsMap Try.prog 9 R b nn D0) (hmax : Maps.size D0 ≤ maxLen) (hbytes : Maps.size D0 * 16 ≤ 140737488355328) :
    CallsIn Fence.wide 5 Try.prog 83 #[.func (.func 88) #[] #[.pointer (some ⟨w.heap.size, 0, none⟩)]] (w.alloc (.cells #[.map (some b)] 125)) fun e w' => ∃ (v : Value) (ss : List (List UInt8)), e = .returned v ∧ ss.Perm (strKeys D0) ∧
      w'.ownsRow (w.alloc (.cells #[.map (some b)] 125)).heap.size 9 1 v ss.length ((ss.mergeSort (fun x y => decide (x ≤ y))).map encStr) ∧ (v = .slice none 0 0 ↔ ss = []) ∧ Below (w.alloc (.cells #[.map (some b)] 125)).heap.size (w.alloc (.cells #[.map (some b)] 125)) w' := by
  have hbl := hown.lt
  have hseq : SeqGives Fence.wide 2 Try.prog 88 #[.pointer (some ⟨w.heap.size, 0, none⟩)] encStr (fun ss => ss.Perm (strKeys D0)) (Maps.size D0) (w.alloc (.cells #[.map (some b)] 125)) :=
    AnyZ.keys_gives (ρ := itKeys_ren) { itKeys with } Fence.wide _ trivial rfl (by omega) w.heap.size b nn D0 _ (by simp) (by simp) (by
      obtain ⟨es, clock, hb, Ft, hs, hD⟩ := hown
      exact ⟨es, clock, (Below.heap_alloc _ _ b hbl).trans hb, Ft, hs, hD⟩)
  exact AnyZ.sorted_in itSorted Fence.wide 5 trivial trivial trivial trivial rfl (by omega) (itSorts _) (enters_of Try.func87 (by kernel_rfl) rfl) 88 #[.pointer (some ⟨w.heap.size, 0, none⟩)] trivial (enters_of Try.func88 (by kernel_rfl) rfl) _ _ hmax hbytes _ hseq

set_option maxHeartbeats 1000000 in
theorem sortedKeysNil_any (w : World) :
    CallsIn Fence.wide 5 Try.prog 83 #[.func (.func 88) #[] #[.pointer (some ⟨w.heap.size, 0, none⟩)]] (w.alloc (.cells #[.map none] 125)) fun e w' => ∃ (v : Value) (ss : List (List UInt8)), e = .returned v ∧ ss = [] ∧
      w'.ownsRow (w.alloc (.cells #[.map none] 125)).heap.size 9 1 v ss.length ((ss.mergeSort (fun x y => decide (x ≤ y))).map encStr) ∧ (v = .slice none 0 0 ↔ ss = []) ∧ Below (w.alloc (.cells #[.map none] 125)).heap.size (w.alloc (.cells #[.map none] 125)) w' := by
  have hseq : SeqGives Fence.wide 2 Try.prog 88 #[.pointer (some ⟨w.heap.size, 0, none⟩)] encStr (fun ss : List (List UInt8) => ss = []) 0 (w.alloc (.cells #[.map none] 125)) :=
    AnyZ.keys_gives_nil (ρ := itKeys_ren) { itKeys with } Fence.wide _ trivial rfl w.heap.size _ (by simp) (by simp)
  exact AnyZ.sorted_in itSorted Fence.wide 5 trivial trivial trivial trivial rfl (by omega) (itSorts _) (enters_of Try.func87 (by kernel_rfl) rfl) 88 #[.pointer (some ⟨w.heap.size, 0, none⟩)] trivial (enters_of Try.func88 (by kernel_rfl) rfl) _ 0 (Nat.zero_le _) (by omega) _ hseq
end Go.Proofs.Ytcpkaolfafeojaa
