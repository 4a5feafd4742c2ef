/-
  The program's sorted names: slices.Clone, slices.Sort, slices.Compact, by the contracts of the library.
-/
import Derived.Test.YtfhgjhchjekbgaaS0
import Derived.Test.YtfhgjhchjekbgaaGC
import Derived.Test.YtfhgjhchjekbgaaSH
import Derived.WalkKit
import Derived.Deep.LoopGhost
import Derived.Shelf.Slices.In.Clone
import Derived.Shelf.Slices.In.CompactS
import Derived.Shelf.Slices.In.SortNone
import Derived.Sort.OwnSorted
import Derived.Sort.Grow
import Derived.Sort.EveryDepth
import Derived.Lib.OwnBridge
import Derived.OwnWalkIn
import Derived.TacticsInMore
import Derived.RegionIn
import Derived.LoopNIn
import Derived.LoopIn
import Derived.Sort.LoopGhostIn
import Derived.Sort.CutIn
import Derived.Sort.QuietIn
import Derived.Shelf.RegionOpen
import Derived.Shelf.AbstractIn
set_option linter.unusedVariables false
set_option linter.unusedSimpArgs false
namespace Go.Proofs.Ytfhgjhchjekbgaa
open Go Go.RowKit Go.Shelf Go.Sort

/-- All functions that the sort comes to. -/
abbrev snFence : List Nat := [50, 72, 73, 74, 82, 83, 86, 87, 88, 89, 90, 91, 92, 93, 94, 95, 96, 97, 98, 99, 100, 101, 102, 103]

/-- What the walk leaves: the slice that is handed back owns the sorted, compacted strings; below the call's own blocks nothing has turned. -/
def Left (w : World) (ss : List (List UInt8)) (e : Ending) (w' : World) : Prop :=
  ∃ g cap, e = .returned (.slice (some ⟨g, 0, none⟩) (Lib.compact (ss.mergeSort fun x y => decide (x ≤ y))).length cap) ∧
    w'.ownsRow w.heap.size 9 1 (.slice (some ⟨g, 0, none⟩) (Lib.compact (ss.mergeSort fun x y => decide (x ≤ y))).length cap) (Lib.compact (ss.mergeSort fun x y => decide (x ≤ y))).length ((Lib.compact (ss.mergeSort fun x y => decide (x ≤ y))).map encStr) ∧ RowKit.Below w.heap.size w w'

theorem left_of {w w1 : World} {g cap n nn q : Nat} {os : Array Obj} {ss : List (List UInt8)} (hown : w1.ownsRow w.heap.size 9 1 (.slice (some ⟨g, 0, none⟩) n cap) n (ss.map encStr)) (hbel : RowKit.Below w.heap.size w w1) (hbg : w.heap.size ≤ g) (hlen : ss.length = n) :
    Left w ss (.returned (.slice (some ⟨g, 0, none⟩) (Lib.compact (ss.mergeSort fun x y => decide (x ≤ y))).length cap))
      (putRow encStr (Sort.ahead (grow (putRow encStr (Sort.ahead w1 nn) g 0 (ss.mergeSort fun x y => decide (x ≤ y)).toArray) os) q) g 0 (Lib.compact (ss.mergeSort fun x y => decide (x ≤ y)) ++ List.replicate (n - (Lib.compact (ss.mergeSort fun x y => decide (x ≤ y))).length) []).toArray) := by
  have hl2 : (ss.mergeSort fun x y => decide (x ≤ y)).length = ss.length := List.length_mergeSort ss
  have hle := Lib.compact_length_le (ss.mergeSort fun x y => decide (x ≤ y))
  subst hlen
  rcases hown.2 with ⟨h0, _⟩ | ⟨g', cap', cur, hv, hbase, hb, h1, h2, h3, h4⟩
  · cases h0
  cases hv
  have hs := ownsRow_sorted (n := nn) (os := os) (ts := ss.mergeSort fun x y => decide (x ≤ y)) hl2 hbase hb h1 h2 h3
  have hc := Lib.ownsRow_putRow (q := q) (k := (Lib.compact (ss.mergeSort fun x y => decide (x ≤ y))).length) (ys := Lib.compact (ss.mergeSort fun x y => decide (x ≤ y)) ++ List.replicate (ss.length - (Lib.compact (ss.mergeSort fun x y => decide (x ≤ y))).length) []) hs (by simp; omega) (by omega)
  rw [List.take_left] at hc
  exact ⟨g, cap, rfl, hc, Lib.below_putRow (hbel.grown (grownBy_sorted _) hbel.size (fun j hj => by cases hj; exact hbase)) hbg⟩

set_option maxHeartbeats 2000000 in
set_option maxRecDepth 100000 in
/-- The walk, once, for whatever argument of which slices.Clone's contract gives a slice that owns 'ss'. -/
theorem sn_tailIn (D n : Nat) (arg : Value) (ss : List (List UInt8)) (w : World) (hn : n ≤ 4611686018427387903)
    (hclone : CallsIn (Fence.list snFence (some D)) 66 Try.prog 72 #[arg] w fun e w' => ∃ v', e = .returned v' ∧ w'.ownsRow w.heap.size 9 1 v' n (ss.map encStr) ∧ v' ≠ .slice none 0 0 ∧ RowKit.Below w.heap.size w w') :
    CallsIn (Fence.list snFence (some D)) 67 Try.prog 50 #[arg] w (Left w ss) := by
  gi_enter Try.func50, Try.ntmps50
  gi_wp2_with (first
    | (gi_at_call 72; refine hclone.mono ?_; rintro e w1 ⟨v1, rfl, hown, hnn, hbel⟩
       obtain ⟨g, cap, rfl, hbg, hgl, hncap, hcm, hlen, hH⟩ := Lib.holds_of_ownsRow hown hnn
       have hsort := ((AnyS.slices_Sort_string_alone Try.laysSort D g 0 cap ss w1 hH hgl (by omega)).wider (L' := snFence) (by decide))
       rw [hlen] at hsort
       have X : Aside (w1.ownsRow w.heap.size 9 1 (.slice (some ⟨g, 0, none⟩) n cap) n (ss.map encStr) ∧ RowKit.Below w.heap.size w w1 ∧ w.heap.size ≤ g ∧ g < w1.heap.size ∧ n ≤ cap ∧ cap ≤ maxLen ∧ ss.length = n ∧ Holds encStr w1 g 0 ss.toArray) := ⟨hown, hbel, hbg, hgl, hncap, hcm, hlen, hH⟩
       clear hown hbel hH hnn)
    | (gi_at_call 73; refine hsort.mono ?_; rintro e w2 ⟨rfl, nn, os, rfl⟩
       have hl2 : (ss.mergeSort fun x y => decide (x ≤ y)).length = n := by rw [List.length_mergeSort]; exact X.out.2.2.2.2.2.2.1
       have hH2 : Holds encStr (grow (putRow encStr (Sort.ahead w1 nn) g 0 (ss.mergeSort fun x y => decide (x ≤ y)).toArray) os) g 0 (ss.mergeSort fun x y => decide (x ≤ y)).toArray :=
         holds_grow encStr _ os g 0 _ (by simpa [putRow, mapBlock, Sort.ahead] using X.out.2.2.2.1) (holds_putRow encStr _ g 0 _ _ (holds_ahead encStr w1 nn g 0 _ X.out.2.2.2.2.2.2.2) (by simp))
       have hcomp := (((AnyS.slices_Compact_string_in Try.laysCompact D g 0 cap (ss.mergeSort fun x y => decide (x ≤ y)) _ hH2 (by omega) (by have := X.out.2.2.2.2.1; omega)).wider (L' := snFence) (by decide)).more (show 0 ≤ 66 by omega))
       rw [hl2] at hcomp
       clear hH2 hsort)
    | (gi_at_call 74; refine hcomp.mono ?_; rintro e w3 ⟨rfl, q, rfl⟩))
  go_ret
  exact left_of X.out.1 X.out.2.1 X.out.2.2.1 X.out.2.2.2.2.2.2.1

theorem sn_anyIn (D b off n c : Nat) (zs : List ByteArray) (w : World) (hz : n ≤ zs.length) (hbig : n * 16 ≤ 140737488355328) (hc : ∀ j, j < zs.length → w.cell? ⟨b, off + j, none⟩ = some (.string (zs.getD j ByteArray.empty))) :
    CallsIn (Fence.list snFence (some D)) 67 Try.prog 50 #[.slice (some ⟨b, off, none⟩) n c] w (Left w ((zs.take n).map (·.data.toList))) :=
  sn_tailIn D n _ _ w (by omega) ((((AnyS.slices_Clone_string_in Try.laysClone D b off n c zs w hz hbig hc).wider (L' := snFence) (by decide)).more (show 0 ≤ 66 by omega)).mono fun e w' ⟨v', he, hown, hnn, hbel⟩ => ⟨v', he, by rw [Lib.map_encStr]; exact hown, hnn, hbel⟩)

/-- A slice of length 0 that is not nil, whatever its address. -/
theorem sn_zeroIn (D : Nat) (a : Addr) (c : Nat) (w : World) :
    CallsIn (Fence.list snFence (some D)) 67 Try.prog 50 #[.slice (some a) 0 c] w (Left w []) :=
  sn_tailIn D 0 _ [] w (by omega) (((AnyS.slices_Clone_string_zero_in Try.laysClone D a c w).wider (L' := snFence) (by decide)).more (show 0 ≤ 66 by omega))

set_option maxHeartbeats 2000000 in
/-- nil: nil comes back; nothing turns. -/
theorem sn_nilIn (D n c : Nat) (w : World) :
    CallsIn (Fence.list snFence (some D)) 67 Try.prog 50 #[.slice none n c] w fun e w' => e = .returned (.slice none 0 0) ∧ w' = w := by
  gi_enter Try.func50, Try.ntmps50
  gi_wp2_with (first
    | (gi_at_call 72; refine ((((AnyS.slices_Clone_string_nil_in Try.laysClone D n c _).wider (L' := snFence) (by decide)).more (show 0 ≤ 66 by omega))).mono ?_; rintro e w' ⟨rfl, rfl⟩)
    | (gi_at_call 73; refine ((((AnyS.slices_Sort_string_none_alone Try.laysSort D none 0 _).wider (L' := snFence) (by decide)).more (show 2 ≤ 66 by omega))).mono ?_; rintro e w' ⟨rfl, rfl⟩)
    | (gi_at_call 74; refine ((((AnyS.slices_Compact_string_empty_in Try.laysCompact D none 0 _).wider (L' := snFence) (by decide)).more (show 0 ≤ 66 by omega))).mono ?_; rintro e w' ⟨rfl, rfl⟩))
  go_ret
  exact ⟨rfl, rfl⟩

end Go.Proofs.Ytfhgjhchjekbgaa
