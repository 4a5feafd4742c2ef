/-
  Sorted names: what sorting and compacting gives is what putting each name in its place gives.
-/
import Derived.Test.YtfhgjhchjekbgaaOA
import Derived.Lib.SlicesCompact
import Derived.Sort.Walk0
import Derived.Test.YtfhgjhchjekbgaaGC
import Derived.Test.YtfhgjhchjekbgaaSH
import Derived.WalkKit
import Derived.Deep.LoopGhost
import Derived.Shelf.Slices.In.Clone
import Derived.Shelf.Slices.In.CompactS
import Derived.Shelf.Slices.In.SortNone
import Derived.Sort.OwnSorted
import Derived.Sort.Grow
import Derived.Sort.EveryDepth
import Derived.Lib.OwnBridge
import Derived.OwnWalkIn
import Derived.TacticsInMore
import Derived.RegionIn
import Derived.LoopNIn
import Derived.LoopIn
import Derived.Sort.LoopGhostIn
import Derived.Sort.CutIn
import Derived.Sort.QuietIn
import Derived.Shelf.RegionOpen
import Derived.Shelf.AbstractIn
import Derived.Shelf.Spec.SlicesGrow
import Derived.KernelRfl
import Derived.Test.YtfhgjhchjekbgaaGA0
import Derived.Test.YtfhgjhchjekbgaaGA1
import Derived.Test.YtfhgjhchjekbgaaGA2
import Derived.Test.YtfhgjhchjekbgaaGA3
set_option linter.unusedVariables false
set_option linter.unusedSimpArgs false
namespace Go.Proofs.Ytfhgjhchjekbgaa
open Go

theorem bl_iff (x y : Str) : Op.bytesLess x y = true ↔ x < y := by rw [bytesLess_eq]; simp
theorem insN_sorted (s : Str) : ∀ {l : List Str}, l.Pairwise (· < ·) → (insN s l).Pairwise (· < ·)
  | [], _ => by simp [insN]
  | x :: xs, h => by
    rw [List.pairwise_cons] at h
    simp only [insN]
    split
    · rename_i e
      have e' := (bl_iff x s).1 e
      rw [List.pairwise_cons]
      refine ⟨fun y hy => ?_, insN_sorted s h.2⟩
      rw [insN_mem] at hy
      rcases hy with rfl | hy
      · exact e'
      · exact h.1 y hy
    · rename_i e
      have e' : ¬ x < s := fun hh => e ((bl_iff x s).2 hh)
      split
      · rw [List.pairwise_cons]
        exact h
      · rename_i e2
        have e3 : s < x := by
          rcases List.le_iff_lt_or_eq.1 (List.not_lt.1 e') with h | h
          · exact h
          · subst h
            simp at e2
        rw [List.pairwise_cons, List.pairwise_cons]
        refine ⟨fun y hy => ?_, h⟩
        rcases List.mem_cons.1 hy with rfl | hy
        · exact e3
        · exact List.lt_trans e3 (h.1 y hy)
theorem foldN_sorted (l : List Str) : ∀ {o : List Str}, o.Pairwise (· < ·) → (l.foldl (fun o s => insN s o) o).Pairwise (· < ·) := by
  induction l with
  | nil => intro o h; exact h
  | cons x l ih => intro o h; exact ih (insN_sorted x h)
theorem sortN_sorted (l : List Str) : (sortN l).Pairwise (· < ·) := foldN_sorted l .nil
theorem sorted_ext : ∀ {a b : List Str}, a.Pairwise (· < ·) → b.Pairwise (· < ·) → (∀ x, x ∈ a ↔ x ∈ b) → a = b
  | [], [], _, _, _ => rfl
  | [], y :: b, _, _, h => by have := (h y).2 (by simp); cases this
  | x :: a, [], _, _, h => by have := (h x).1 (by simp); cases this
  | x :: a, y :: b, ha, hb, h => by
    rw [List.pairwise_cons] at ha hb
    have irr : ∀ z : Str, ¬ z < z := List.lt_irrefl
    have e : x = y := by
      rcases List.mem_cons.1 ((h x).1 (by simp)) with e | e
      · exact e
      · rcases List.mem_cons.1 ((h y).2 (by simp)) with e2 | e2
        · exact e2.symm
        · exact absurd (List.lt_trans (hb.1 x e) (ha.1 y e2)) (irr _)
    subst e
    congr 1
    refine sorted_ext ha.2 hb.2 fun z => ⟨fun hz => ?_, fun hz => ?_⟩
    · rcases List.mem_cons.1 ((h z).1 (by simp [hz])) with e | e
      · subst e
        exact absurd (ha.1 z hz) (irr _)
      · exact e
    · rcases List.mem_cons.1 ((h z).2 (by simp [hz])) with e | e
      · subst e
        exact absurd (hb.1 z hz) (irr _)
      · exact e
theorem compact_sorted {zs : List Str} (hz : zs.Pairwise (· ≤ ·)) : (Lib.compact zs).Pairwise (· < ·) ∧ ∀ x, x ∈ Lib.compact zs ↔ x ∈ zs := by
  have get : ∀ j, j < zs.length → zs.toArray[j]! = zs[j]?.getD default := fun j hj => by simp
  have mono : ∀ i j, i < j → j < zs.length → zs.toArray[i]! ≤ zs.toArray[j]! := fun i j hij hj => by
    have := List.pairwise_iff_getElem.1 hz i j (by omega) hj hij
    simpa [getElem!_pos, hj, show i < zs.length by omega] using this
  have key : ∀ m, m ≤ zs.length → (Lib.compactUpTo zs.toArray m).Pairwise (· < ·) ∧ ∀ x, x ∈ Lib.compactUpTo zs.toArray m ↔ ∃ j, j < m ∧ zs.toArray[j]! = x := by
    intro m
    induction m with
    | zero =>
      intro _
      constructor
      · simp [Lib.compactUpTo]
      · intro x
        simp [Lib.compactUpTo]
    | succ m ih =>
      intro hm
      obtain ⟨h1, h2⟩ := ih (by omega)
      rw [Lib.compactUpTo_succ]
      cases hk : Lib.keeps zs.toArray m with
      | true =>
        simp only [if_true]
        refine ⟨List.pairwise_append.2 ⟨h1, by simp, fun x hx y hy => ?_⟩, fun x => ?_⟩
        · simp only [List.mem_singleton] at hy
          subst hy
          obtain ⟨j, hj, rfl⟩ := (h2 x).1 hx
          simp only [Lib.keeps, decide_eq_true_eq] at hk
          have hne := hk.resolve_left (by omega)
          have hlt : zs.toArray[m - 1]! < zs.toArray[m]! := by
            rcases List.le_iff_lt_or_eq.1 (mono (m - 1) m (by omega) (by omega)) with h | h
            · exact h
            · exact absurd h.symm hne
          by_cases e : j = m - 1
          · rw [e]
            exact hlt
          · exact List.lt_of_le_of_lt (mono j (m - 1) (by omega) (by omega)) hlt
        · rw [List.mem_append, h2, List.mem_singleton]
          constructor
          · rintro (⟨j, hj, rfl⟩ | rfl)
            · exact ⟨j, by omega, rfl⟩
            · exact ⟨m, by omega, rfl⟩
          · rintro ⟨j, hj, rfl⟩
            by_cases e : j = m
            · subst e
              exact .inr rfl
            · exact .inl ⟨j, by omega, rfl⟩
      | false =>
        simp only [Bool.false_eq_true, if_false, List.append_nil]
        refine ⟨h1, fun x => ?_⟩
        rw [h2]
        simp only [Lib.keeps, decide_eq_false_iff_not, not_or, Decidable.not_not] at hk
        obtain ⟨hk1, hk2⟩ := hk
        constructor
        · rintro ⟨j, hj, rfl⟩
          exact ⟨j, by omega, rfl⟩
        · rintro ⟨j, hj, rfl⟩
          by_cases e : j = m
          · subst e
            exact ⟨j - 1, by omega, hk2.symm⟩
          · exact ⟨j, by omega, rfl⟩
  obtain ⟨h1, h2⟩ := key zs.length (Nat.le_refl _)
  refine ⟨h1, fun x => ?_⟩
  unfold Lib.compact
  rw [h2]
  constructor
  · rintro ⟨j, hj, rfl⟩
    rw [getElem!_pos _ j (by simpa using hj)]
    simp
  · intro hx
    obtain ⟨j, hj, rfl⟩ := List.mem_iff_getElem.1 hx
    exact ⟨j, hj, by rw [getElem!_pos _ j (by simpa using hj)]; simp⟩
theorem compact_merge (l : List Str) : Lib.compact (l.mergeSort fun x y => decide (x ≤ y)) = sortN l := by
  have hs : (l.mergeSort fun x y => decide (x ≤ y)).Pairwise (· ≤ ·) := by
    have := List.pairwise_mergeSort (le := fun x y : Str => decide (x ≤ y)) (fun a b c h1 h2 => by
      simp only [decide_eq_true_eq] at h1 h2 ⊢
      exact List.le_trans h1 h2) (fun a b => by
      simp only [Bool.or_eq_true, decide_eq_true_eq]
      exact List.le_total a b) l
    exact this.imp fun h => by simpa using h
  obtain ⟨h1, h2⟩ := compact_sorted hs
  refine sorted_ext h1 (sortN_sorted l) fun x => ?_
  rw [h2, sortN_mem, List.mem_mergeSort]

end Go.Proofs.Ytfhgjhchjekbgaa
set_option linter.unusedVariables false
set_option linter.unusedSimpArgs false
namespace Go.Proofs.Ytfhgjhchjekbgaa
open Go Go.RowKit Go.Shelf Go.Sort

/-- All functions that the sort comes to. -/
abbrev snFence : List Nat := [50, 72, 73, 74, 82, 83, 86, 87, 88, 89, 90, 91, 92, 93, 94, 95, 96, 97, 98, 99, 100, 101, 102, 103]

/-- What the walk leaves: the slice that is handed back owns the sorted, compacted strings; below the call's own blocks nothing has turned. -/
def Left (w : World) (ss : List (List UInt8)) (e : Ending) (w' : World) : Prop :=
  ∃ g cap, e = .returned (.slice (some ⟨g, 0, none⟩) (Lib.compact (ss.mergeSort fun x y => decide (x ≤ y))).length cap) ∧
    w'.ownsRow w.heap.size 9 1 (.slice (some ⟨g, 0, none⟩) (Lib.compact (ss.mergeSort fun x y => decide (x ≤ y))).length cap) (Lib.compact (ss.mergeSort fun x y => decide (x ≤ y))).length ((Lib.compact (ss.mergeSort fun x y => decide (x ≤ y))).map encStr) ∧ RowKit.Below w.heap.size w w'

theorem left_of {w w1 : World} {g cap n nn q : Nat} {os : Array Obj} {ss : List (List UInt8)} (hown : w1.ownsRow w.heap.size 9 1 (.slice (some ⟨g, 0, none⟩) n cap) n (ss.map encStr)) (hbel : RowKit.Below w.heap.size w w1) (hbg : w.heap.size ≤ g) (hlen : ss.length = n) :
    Left w ss (.returned (.slice (some ⟨g, 0, none⟩) (Lib.compact (ss.mergeSort fun x y => decide (x ≤ y))).length cap))
      (putRow encStr (Sort.ahead (grow (putRow encStr (Sort.ahead w1 nn) g 0 (ss.mergeSort fun x y => decide (x ≤ y)).toArray) os) q) g 0 (Lib.compact (ss.mergeSort fun x y => decide (x ≤ y)) ++ List.replicate (n - (Lib.compact (ss.mergeSort fun x y => decide (x ≤ y))).length) []).toArray) := by
  have hl2 : (ss.mergeSort fun x y => decide (x ≤ y)).length = ss.length := List.length_mergeSort ss
  have hle := Lib.compact_length_le (ss.mergeSort fun x y => decide (x ≤ y))
  subst hlen
  rcases hown.2 with ⟨h0, _⟩ | ⟨g', cap', cur, hv, hbase, hb, h1, h2, h3, h4⟩
  · cases h0
  cases hv
  have hs := ownsRow_sorted (n := nn) (os := os) (ts := ss.mergeSort fun x y => decide (x ≤ y)) hl2 hbase hb h1 h2 h3
  have hc := Lib.ownsRow_putRow (q := q) (k := (Lib.compact (ss.mergeSort fun x y => decide (x ≤ y))).length) (ys := Lib.compact (ss.mergeSort fun x y => decide (x ≤ y)) ++ List.replicate (ss.length - (Lib.compact (ss.mergeSort fun x y => decide (x ≤ y))).length) []) hs (by simp; omega) (by omega)
  rw [List.take_left] at hc
  exact ⟨g, cap, rfl, hc, Lib.below_putRow (hbel.grown (grownBy_sorted _) hbel.size (fun j hj => by cases hj; exact hbase)) hbg⟩

set_option maxHeartbeats 2000000 in
set_option maxRecDepth 100000 in
/-- The walk, once, for whatever argument of which slices.Clone's contract gives a slice that owns 'ss'. -/
theorem sn_tailIn (D n : Nat) (arg : Value) (ss : List (List UInt8)) (w : World) (hn : n ≤ 4611686018427387903)
    (hclone : CallsIn (Fence.list snFence (some D)) 66 Try.prog 72 #[arg] w fun e w' => ∃ v', e = .returned v' ∧ w'.ownsRow w.heap.size 9 1 v' n (ss.map encStr) ∧ v' ≠ .slice none 0 0 ∧ RowKit.Below w.heap.size w w') :
    CallsIn (Fence.list snFence (some D)) 67 Try.prog 50 #[arg] w (Left w ss) := by
  gi_enter Try.func50, Try.ntmps50
  gi_wp2_with (first
    | (gi_at_call 72; refine hclone.mono ?_; rintro e w1 ⟨v1, rfl, hown, hnn, hbel⟩
       obtain ⟨g, cap, rfl, hbg, hgl, hncap, hcm, hlen, hH⟩ := Lib.holds_of_ownsRow hown hnn
       have hsort := ((AnyS.slices_Sort_string_alone Try.laysSort D g 0 cap ss w1 hH hgl (by omega)).wider (L' := snFence) (by decide))
       rw [hlen] at hsort
       have X : Aside (w1.ownsRow w.heap.size 9 1 (.slice (some ⟨g, 0, none⟩) n cap) n (ss.map encStr) ∧ RowKit.Below w.heap.size w w1 ∧ w.heap.size ≤ g ∧ g < w1.heap.size ∧ n ≤ cap ∧ cap ≤ maxLen ∧ ss.length = n ∧ Holds encStr w1 g 0 ss.toArray) := ⟨hown, hbel, hbg, hgl, hncap, hcm, hlen, hH⟩
       clear hown hbel hH hnn)
    | (gi_at_call 73; refine hsort.mono ?_; rintro e w2 ⟨rfl, nn, os, rfl⟩
       have hl2 : (ss.mergeSort fun x y => decide (x ≤ y)).length = n := by rw [List.length_mergeSort]; exact X.out.2.2.2.2.2.2.1
       have hH2 : Holds encStr (grow (putRow encStr (Sort.ahead w1 nn) g 0 (ss.mergeSort fun x y => decide (x ≤ y)).toArray) os) g 0 (ss.mergeSort fun x y => decide (x ≤ y)).toArray :=
         holds_grow encStr _ os g 0 _ (by simpa [putRow, mapBlock, Sort.ahead] using X.out.2.2.2.1) (holds_putRow encStr _ g 0 _ _ (holds_ahead encStr w1 nn g 0 _ X.out.2.2.2.2.2.2.2) (by simp))
       have hcomp := (((AnyS.slices_Compact_string_in Try.laysCompact D g 0 cap (ss.mergeSort fun x y => decide (x ≤ y)) _ hH2 (by omega) (by have := X.out.2.2.2.2.1; omega)).wider (L' := snFence) (by decide)).more (show 0 ≤ 66 by omega))
       rw [hl2] at hcomp
       clear hH2 hsort)
    | (gi_at_call 74; refine hcomp.mono ?_; rintro e w3 ⟨rfl, q, rfl⟩))
  go_ret
  exact left_of X.out.1 X.out.2.1 X.out.2.2.1 X.out.2.2.2.2.2.2.1

theorem sn_anyIn (D b off n c : Nat) (zs : List ByteArray) (w : World) (hz : n ≤ zs.length) (hbig : n * 16 ≤ 140737488355328) (hc : ∀ j, j < zs.length → w.cell? ⟨b, off + j, none⟩ = some (.string (zs.getD j ByteArray.empty))) :
    CallsIn (Fence.list snFence (some D)) 67 Try.prog 50 #[.slice (some ⟨b, off, none⟩) n c] w (Left w ((zs.take n).map (·.data.toList))) :=
  sn_tailIn D n _ _ w (by omega) ((((AnyS.slices_Clone_string_in Try.laysClone D b off n c zs w hz hbig hc).wider (L' := snFence) (by decide)).more (show 0 ≤ 66 by omega)).mono fun e w' ⟨v', he, hown, hnn, hbel⟩ => ⟨v', he, by rw [Lib.map_encStr]; exact hown, hnn, hbel⟩)

/-- A slice of length 0 that is not nil, whatever its address. -/
theorem sn_zeroIn (D : Nat) (a : Addr) (c : Nat) (w : World) :
    CallsIn (Fence.list snFence (some D)) 67 Try.prog 50 #[.slice (some a) 0 c] w (Left w []) :=
  sn_tailIn D 0 _ [] w (by omega) (((AnyS.slices_Clone_string_zero_in Try.laysClone D a c w).wider (L' := snFence) (by decide)).more (show 0 ≤ 66 by omega))

set_option maxHeartbeats 2000000 in
/-- nil: nil comes back; nothing turns. -/
theorem sn_nilIn (D n c : Nat) (w : World) :
    CallsIn (Fence.list snFence (some D)) 67 Try.prog 50 #[.slice none n c] w fun e w' => e = .returned (.slice none 0 0) ∧ w' = w := by
  gi_enter Try.func50, Try.ntmps50
  gi_wp2_with (first
    | (gi_at_call 72; refine ((((AnyS.slices_Clone_string_nil_in Try.laysClone D n c _).wider (L' := snFence) (by decide)).more (show 0 ≤ 66 by omega))).mono ?_; rintro e w' ⟨rfl, rfl⟩)
    | (gi_at_call 73; refine ((((AnyS.slices_Sort_string_none_alone Try.laysSort D none 0 _).wider (L' := snFence) (by decide)).more (show 2 ≤ 66 by omega))).mono ?_; rintro e w' ⟨rfl, rfl⟩)
    | (gi_at_call 74; refine ((((AnyS.slices_Compact_string_empty_in Try.laysCompact D none 0 _).wider (L' := snFence) (by decide)).more (show 0 ≤ 66 by omega))).mono ?_; rintro e w' ⟨rfl, rfl⟩))
  go_ret
  exact ⟨rfl, rfl⟩

end Go.Proofs.Ytfhgjhchjekbgaa
set_option linter.unusedVariables false
set_option linter.unusedSimpArgs false
namespace Go.Proofs.Ytfhgjhchjekbgaa
open Go

theorem sort_calls (D : Nat) {K : Nat → Nat} {w : World} {v : Value} {l : List Str} (hl : l.length < 68719476735) (h : Rep K w v (.slice (e_str l))) :
    (v.ownBlock = none ∧ CallsIn (Fence.list snFence (some D)) 67 Try.prog 50 #[v] w (fun e w' => e = .returned (.slice none 0 0) ∧ w' = w) ∧ l = []) ∨
    CallsIn (Fence.list snFence (some D)) 67 Try.prog 50 #[v] w (Left w l) := by
  have hlen : (e_str l).length = l.length := enc_len (e := e_str) l
  generalize he : e_str l = xs at h
  cases h with
  | slice0 a cap =>
    have hl0 : l = [] := List.eq_nil_of_length_eq_zero (by rw [he] at hlen; simpa using hlen.symm)
    cases a with
    | none => exact .inl ⟨rfl, sn_nilIn D 0 cap w, hl0⟩
    | some a =>
      subst hl0
      exact .inr (sn_zeroIn D a cap w)
  | slice b off len cap sz xs f h0 hlx hp hK hs hc h1 hr =>
    subst he
    rw [hlen] at hlx
    have get : ∀ i, i < l.length → (e_str l)[i]? = some [.str (l[i]?.getD [])] := fun i hi => by
      obtain ⟨u, hu⟩ := get_lt hi
      rw [hu]
      exact enc_get (e := e_str) hu
    have hsz : sz = 1 := (hs 0 _ (get 0 (by omega))).symm
    subst hsz
    have cell : ∀ j, j < l.length → w.cell? ⟨b, off + j, none⟩ = some (.string ⟨(l[j]?.getD []).toArray⟩) := fun j hj => by
      have h2 := hc j _ 0 _ (get j hj) rfl
      have h3 := hr j _ 0 _ (get j hj) rfl
      rw [show off + j * 1 + 0 = off + j by omega] at h2
      rw [h2]
      generalize f j 0 = v at h3
      cases h3
      rfl
    refine .inr ?_
    have h4 := sn_anyIn D b off len cap (l.map fun s => ⟨s.toArray⟩) w (by simp; omega) (by omega) (fun j hj => by
      rw [List.length_map] at hj
      rw [cell j hj]
      obtain ⟨u, hu⟩ := get_lt hj
      rw [List.getD, List.getElem?_map, hu]
      rfl)
    have e2 : (((l.map fun s => (⟨s.toArray⟩ : ByteArray)).take len).map (·.data.toList)) = l := by
      rw [List.take_of_length_le (by simp; omega), List.map_map]
      exact (List.map_congr_left (g := id) fun x _ => rfl).trans (List.map_id l)
    rw [e2] at h4
    exact h4
theorem left_ev {K : Nat → Nat} {w w' : World} {l : List Str} {e : Ending} (hk : KOK K w) (h : Left w l e w') : ∃ (v : Value) (K' : Nat → Nat) (br bo : List Nat), e = .returned v ∧ Keep (· ∈ ([] : List Nat)) w w' ∧ KOK K' w' ∧ Ext K K' w w' ∧ (∀ b, b < w.heap.size → b ∉ ([] : List Nat) → K' b = K b) ∧
      RepR K' w' v (.one (.l (.ow 1 (e_str (sortN l))))) br ∧ RepOs K' w' [] [] bo ∧ (br ++ bo).Nodup ∧ ∀ b ∈ br ++ bo, b ∈ ([] : List Nat) ∨ w.heap.size ≤ b := by
  obtain ⟨g, cap, rfl, hown, hb⟩ := h
  rw [compact_merge] at hown ⊢
  generalize sortN l = s at hown
  rcases hown.2 with ⟨h0, _⟩ | ⟨g', cap', cur, hv, hbase, hg, h1, h2, h3, h4⟩
  · cases h0
  cases hv
  have hgK : K g = 0 := hk.zero hbase
  have hcells : ∀ i, i < s.length → w'.cell? ⟨g, 0 + i * 1 + 0, none⟩ = some (.string ⟨(s[i]?.getD []).toArray⟩) := fun i hi => by
    have h5 : (cur.toList.take (s.length * 1))[i]? = (s.map encStr)[i]? := by rw [h4]
    rw [List.getElem?_take, if_pos (by omega), Array.getElem?_toList] at h5
    obtain ⟨u, hu⟩ := get_lt hi
    rw [List.getElem?_map, hu] at h5
    simp only [World.cell?, hg, Option.isSome_none, Bool.false_eq_true, if_false]
    rw [show 0 + i * 1 + 0 = i by omega, h5, hu]
    rfl
  let K' : Nat → Nat := fun b => if b = g then s.length else K b
  have hK'g : K' g = s.length := if_pos rfl
  have hK'o : ∀ b, b ≠ g → K' b = K b := fun b hb => if_neg hb
  have hkeep : Keep (· ∈ ([] : List Nat)) w w' := ⟨hb.os, hb.tape, hb.output, hb.size, fun b hlt _ => hb.block b hlt⟩
  refine ⟨_, K', [g], [], rfl, hkeep, ?_, ?_, ?_, ?_, .nil, by simp, ?_⟩
  · intro b hpos
    by_cases e : b = g
    · subst e
      rw [hK'g] at hpos ⊢
      exact ⟨cur, _, _, hg, by omega⟩
    · rw [hK'o b e] at hpos ⊢
      obtain ⟨cs, e1, fr, h5, h6⟩ := hk b hpos
      exact ⟨cs, e1, fr, by rw [hb.block b (hk.lt hpos)]; exact h5, h6⟩
  · refine ⟨fun b => ?_, fun b o ho => ?_⟩
    · by_cases e : b = g
      · subst e
        rw [hgK]
        exact Nat.zero_le _
      · rw [hK'o b e]
        exact Nat.le_refl _
    · exact cell_of_heap (hb.block b (hk.lt (by omega)))
  · intro b hlt _
    exact hK'o b (by omega)
  · refine .one (.l (.ow ?_ ?_ (enc_sz (e := e_str) _)))
    · rcases Nat.eq_zero_or_pos s.length with h5 | h5
      · have : s = [] := List.eq_nil_of_length_eq_zero h5
        subst this
        exact .slice0 _ _
      · have get : ∀ i y, (e_str s)[i]? = some y → i < s.length ∧ y = [.str (s[i]?.getD [])] := fun i y hy => by
          have hi : i < s.length := by
            have := lt_of_getElem? hy
            rw [enc_len (e := e_str)] at this
            exact this
          obtain ⟨u, hu⟩ := get_lt hi
          rw [enc_get (e := e_str) hu] at hy
          rw [hu]
          exact ⟨hi, (Option.some.inj hy).symm⟩
        have one : ∀ (j : Nat) (c : PV) (x : Str), ([.str x] : List PV)[j]? = some c → j = 0 ∧ c = .str x := fun j c x hj => by
          cases j with
          | zero => simp at hj; exact ⟨rfl, hj.symm⟩
          | succ j => simp at hj
        refine .slice g 0 s.length cap 1 _ (fun i _ => .string ⟨(s[i]?.getD []).toArray⟩) h5 (enc_len (e := e_str) s) h1 (by rw [hK'g]; omega) (fun i x hx => by rw [(get i x hx).2]; rfl) ?_ (fun _ _ _ _ _ _ => rfl) ?_
        · intro i y j c hy hj
          obtain ⟨hi, rfl⟩ := get i y hy
          obtain ⟨rfl, rfl⟩ := one j c _ hj
          exact hcells i hi
        · intro i y j c hy hj
          obtain ⟨hi, rfl⟩ := get i y hy
          obtain ⟨rfl, rfl⟩ := one j c _ hj
          exact .str _
    · rw [enc_len (e := e_str)]
      exact .row g s.length cap 1 cur _ hg h1 h2 h3 (by decide) (by rw [hK'g]; omega)
  · intro b hb2
    simp only [List.append_nil, List.mem_singleton] at hb2
    subst hb2
    exact .inr hbase
theorem ok_impl_SortNames (l : List Str) (hl : l.length < 68719476735) : C_impl_SortNames l (sortN l) := by
  refine ⟨⟨_, Try.func50, by decide, rfl⟩, fun K w vs bs hk hr hn => ?_⟩
  obtain ⟨v, rfl, hv, rfl⟩ : ∃ v, vs = #[v] ∧ Rep K w v (.slice (e_str l)) ∧ bs = [] := by
    have h := hr
    generalize hvs : vs.toList = us at h
    cases h with
    | cons h1 h2 =>
      cases h2
      cases h1 with
      | l h1 =>
        cases h1 with
        | fz h1 =>
          rename_i v0
          refine ⟨v0, ?_, h1, by simp⟩
          cases vs
          simp at hvs
          simp [hvs]
  refine calls_of_every_depth (L := snFence) (n := 67) fun D => ?_
  rcases sort_calls D hl hv with ⟨_, h, h0⟩ | h
  · refine h.mono ?_
    rintro e w' ⟨rfl, rfl⟩
    subst h0
    exact ⟨_, K, [], [], rfl, Keep.refl _ _, hk, Ext.refl _ _, fun _ _ _ => rfl, .one (.l (.ow (.slice0 _ _) (.nil 1) (by simp [sortN, e_str]))), .nil, by simp, by simp⟩
  · exact h.mono fun e w' he => left_ev hk he

end Go.Proofs.Ytfhgjhchjekbgaa
set_option linter.unusedVariables false
set_option linter.unusedSimpArgs false
namespace Go.Proofs.Ytfhgjhchjekbgaa
open Go

theorem ok_Grow_of {P : Program} {f T : FuncId} {sz bytes : Nat} (hsz : 0 < sz) (hfn : FnOK P f)
    (hroom : ∀ (base : Option Addr) (l c n : Nat) (w : World), l ≤ c → c ≤ 9223372036854775807 → n ≤ 9223372036854775807 → l + n ≤ c → Calls P f #[.slice base l c, .int .i64 n] w fun e w' => e = .returned (.slice base l c) ∧ w' = w)
    (hgrow : ∀ (base : Option Addr) (l c n : Nat) (cs : List Value) (w : World), l ≤ c → c < l + n → (l + n) * bytes ≤ 140737488355328 → l + n ≤ 4611686018427387904 → cs.length = c * sz → (base = none → c = 0) → (∀ a, base = some a → ∀ j v, cs[j]? = some v → w.cell? (a.add j) = some v) →
      Calls P f #[.slice base l c, .int .i64 n] w fun e w' => ∃ (G : Nat) (zs : Array Value), e = .returned (.slice (some ⟨w.heap.size, 0, none⟩) l G) ∧ G ≤ maxLen ∧ zs.size = G * sz ∧ w' = w.drew.alloc (.cells zs T))
    (n : Nat) (hn : n * bytes ≤ 140737488355328) (hn2 : n ≤ 4611686018427387904) : Ev P f [.l (.ow sz []), .l (.fz (.int .i64 n))] (.one (.l (.ow sz []))) [] := by
  refine ⟨hfn, fun K w vs bs hk hr hnd => ?_⟩
  obtain ⟨v, rfl, ht⟩ : ∃ v, vs = #[v, .int .i64 n] ∧ Tip K w v 0 sz bs := by
    generalize hvs : vs.toList = us at hr
    cases hr with
    | cons h1 h2 =>
      cases h2 with
      | cons h3 h4 =>
        cases h4
        cases h1 with
        | l h1 =>
          cases h3 with
          | l h3 =>
            cases h3 with
            | fz h3 =>
              cases h3
              cases h1 with
              | ow _ ht _ =>
                refine ⟨_, ?_, by simpa using ht⟩
                cases vs
                simp at hvs
                simp [hvs]
  have fresh : ∀ {w' : World} (G : Nat) (zs : Array Value), G ≤ maxLen → zs.size = G * sz → w' = w.drew.alloc (.cells zs T) → ∃ (v : Value) (K' : Nat → Nat) (br bo : List Nat), Ending.returned (.slice (some ⟨w.heap.size, 0, none⟩) 0 G) = .returned v ∧ Keep (· ∈ bs) w w' ∧ KOK K' w' ∧ Ext K K' w w' ∧ (∀ b, b < w.heap.size → b ∉ bs → K' b = K b) ∧
      RepR K' w' v (.one (.l (.ow sz []))) br ∧ RepOs K' w' [] [] bo ∧ (br ++ bo).Nodup ∧ ∀ b ∈ br ++ bo, b ∈ bs ∨ w.heap.size ≤ b := by
    intro w' G zs hG hzs hw
    have e0 : w.drew.heap = w.heap := rfl
    have hold : ∀ b, b < w.heap.size → w'.heap[b]? = w.heap[b]? := fun b hb => by rw [hw]; exact (Keep.alloc (fun _ => False) w.drew _).block b hb (by simp)
    have hnew : w'.heap[w.heap.size]? = some (.cells zs T) := by rw [hw]; exact heap_alloc_new w.drew _
    refine ⟨_, K, [w.heap.size], [], rfl, ?_, ?_, ⟨fun _ => Nat.le_refl _, fun b o ho => cell_of_heap (hold b (hk.lt (by omega)))⟩, fun _ _ _ => rfl, ?_, .nil, by simp, by simp⟩
    · rw [hw]
      exact (Keep.drew _ w).trans (Keep.alloc _ _ _) (fun b _ h => h)
    · intro b hb
      obtain ⟨cs, e, fr, h1, h2⟩ := hk b hb
      exact ⟨cs, e, fr, by rw [hold b (hk.lt hb)]; exact h1, h2⟩
    · exact .one (.l (.ow (.slice0 _ _) (.row w.heap.size 0 G sz zs T hnew (Nat.zero_le _) hG hzs hsz (by rw [Nat.zero_mul]; exact hk.zero (Nat.le_refl _))) (by simp)))
  have same : ∃ (v' : Value) (K' : Nat → Nat) (br bo : List Nat), Ending.returned v = .returned v' ∧ Keep (· ∈ bs) w w ∧ KOK K' w ∧ Ext K K' w w ∧ (∀ b, b < w.heap.size → b ∉ bs → K' b = K b) ∧
      RepR K' w v' (.one (.l (.ow sz []))) br ∧ RepOs K' w [] [] bo ∧ (br ++ bo).Nodup ∧ ∀ b ∈ br ++ bo, b ∈ bs ∨ w.heap.size ≤ b := by
    refine ⟨v, K, bs, [], rfl, Keep.refl _ _, hk, Ext.refl _ _, fun _ _ _ => rfl, .one (.l (.ow ?_ (by simpa using ht) (by simp))), .nil, by simpa using hnd, fun b hb => .inl (by simpa using hb)⟩
    cases ht with
    | nil => exact .slice0 _ _
    | row => exact .slice0 _ _
  cases ht with
  | nil =>
    rcases Nat.eq_zero_or_pos n with h0 | h0
    · subst h0
      refine (hroom none 0 0 0 w (by decide) (by decide) (by decide) (by decide)).mono ?_
      rintro e w' ⟨rfl, rfl⟩
      exact same
    · refine (hgrow none 0 0 n [] w (by decide) (by omega) (by simpa using hn) (by omega) (by simp) (fun _ => rfl) (by simp)).mono ?_
      rintro e w' ⟨G, zs, rfl, h1, h2, h3⟩
      exact fresh G zs h1 h2 h3
  | row b _ cap _ cur e hg h1 h2 h3 h4 h5 =>
    have hcm : cap ≤ 9223372036854775807 := by unfold maxLen at h2; omega
    by_cases hc : n ≤ cap
    · refine (hroom (some ⟨b, 0, none⟩) 0 cap n w (by omega) hcm (by omega) (by omega)).mono ?_
      rintro e w' ⟨rfl, rfl⟩
      exact same
    · refine (hgrow (some ⟨b, 0, none⟩) 0 cap n cur.toList w (by omega) (by omega) (by simpa using hn) (by omega) (by simpa using h3) (by simp) ?_).mono ?_
      · rintro a ha j u hj
        cases ha
        have hadd : (⟨b, 0, none⟩ : Addr).add j = ⟨b, j, none⟩ := by
          unfold Addr.add
          split
          · rename_i e
            rw [e]
          · simp
        rw [hadd]
        simp only [World.cell?, hg, Option.isSome_none, Bool.false_eq_true, if_false]
        simpa using hj
      · rintro e w' ⟨G, zs, rfl, h1, h2, h3⟩
        exact fresh G zs h1 h2 h3

theorem bind_info : (match Try.prog.info? 64 with
    | some i => (match i.zero with
      | some z => decide (i.size = 5) && decide (i.bytes = 72) && decide (z.cells.size = 5)
      | none => false)
    | none => false) = true := by kernel_rfl
theorem ok_GrowBind (n : Nat) (hn : n * 72 ≤ 140737488355328) : C_slices_Grow_Bind [] n [] := by
  have hi := bind_info
  split at hi
  case h_2 => cases hi
  rename_i i hi1
  split at hi
  case h_2 => cases hi
  rename_i z hz
  simp only [Bool.and_eq_true, decide_eq_true_eq] at hi
  obtain ⟨⟨h1, h2⟩, h3⟩ := hi
  refine ok_Grow_of (T := 64) (sz := 5) (bytes := 72) (by decide) ⟨_, Try.func75, by decide, rfl⟩ (fun base l c n w a1 a2 a3 a4 => Any8.slices_Grow_room Try.growBind base l c n w a1 a2 a3 a4) ?_ n hn (by omega)
  intro base l c n cs w a1 a2 a3 a4 a5 a6 a7
  refine (Any8.slices_Grow_grow Try.growBind i z hi1 hz (by omega) base l c n cs w a1 a2 (by rw [h2]; exact a3) a4 (by rw [h1]; exact a5) a6 a7).mono ?_
  rintro e w' ⟨rfl, rfl⟩
  refine ⟨_, _, rfl, grownCap_le_maxLen w (l + n) c _ (by unfold maxLen; omega), ?_, rfl⟩
  simp only [Array.size_append, size_zeroCells, h3, List.size_toArray, a5]
  have := grownCap_ge w (l + n) c 64
  generalize hG : grownCap w (l + n) c 64 = G at this
  have e : grownCap w (l + n) c (Try.growBind_ren.t 25) = G := hG
  rw [e]
  omega

end Go.Proofs.Ytfhgjhchjekbgaa
set_option linter.unusedVariables false
set_option linter.unusedSimpArgs false
namespace Go.Proofs.Ytfhgjhchjekbgaa
open Go

theorem two_at {α : Type} {a b u : α} {k : Nat} (h : [a, b][k]? = some u) : (k = 0 ∧ u = a) ∨ (k = 1 ∧ u = b) := by
  match k with
  | 0 => simp at h; exact .inl ⟨rfl, h.symm⟩
  | 1 => simp at h; exact .inr ⟨rfl, h.symm⟩
  | k + 2 => simp at h
theorem ok_Concat (a b : List Bd) (h : a.length + b.length < 68719476735) : C_slices_Concat_Bind [a, b] (a ++ b) := by
  refine via (w_slices_Concat_Bind [a, b] (· = a ++ b) ?_)
  refine LOOP.up 2 (fun k => if k = 0 then (0 : Int) else if k = 1 then (a.length : Int) else ((a.length + b.length : Nat) : Int)) (by decide) rfl ?_
  intro k hk N hN
  refine ⟨fun h1 => ?_, fun h1 => ?_⟩
  · obtain ⟨u, hu⟩ := get_k h1
    refine ⟨u, geti hu, fun h2 => ?_, fun h2 => hN (lt_k h1) _ ?_⟩
    · have := of_decide_eq_true h2
      rcases two_at hu with ⟨rfl, rfl⟩ | ⟨rfl, rfl⟩
      · simp only [if_true] at this
        rw [i64_wrap (by omega) (by omega)] at this
        omega
      · simp only [Nat.one_ne_zero, if_false, if_true] at this
        rw [i64_wrap (by omega) (by omega)] at this
        omega
    · rcases two_at hu with ⟨rfl, rfl⟩ | ⟨rfl, rfl⟩
      · simp only [if_true]
        rw [i64_wrap (by omega) (by omega)]
        simp
      · simp only [Nat.one_ne_zero, if_false, if_true]
        rw [i64_wrap (by omega) (by omega)]
        simp
  · have hk2 : k = 2 := by
      have := ge_k h1
      have : [a, b].length = 2 := rfl
      omega
    subst hk2
    refine ⟨[], ok_GrowBind (a.length + b.length) (by omega), ?_⟩
    refine LOOP.up 2 (fun k => if k = 0 then [] else if k = 1 then a else a ++ b) (by decide) rfl ?_
    intro k hk N hN
    refine ⟨fun h1 => ?_, fun h1 => ?_⟩
    · obtain ⟨u, hu⟩ := get_k h1
      refine ⟨u, geti hu, bnd ?_ (by decide), hN (lt_k h1) _ ?_⟩
      · rcases two_at hu with ⟨rfl, rfl⟩ | ⟨rfl, rfl⟩
        · simp
          omega
        · simp
          omega
      · rcases two_at hu with ⟨rfl, rfl⟩ | ⟨rfl, rfl⟩
        · simp
        · simp
    · have hk2 : k = 2 := by
        have := ge_k h1
        have : [a, b].length = 2 := rfl
        omega
      subst hk2
      rfl

end Go.Proofs.Ytfhgjhchjekbgaa
set_option linter.unusedVariables false
set_option linter.unusedSimpArgs false
namespace Go.Proofs.Ytfhgjhchjekbgaa
open Go

theorem ok_impl_VarsOfTerm (t : Tm) (ht : t.Ok) (hn : t.nodes < 68719476735) : C_impl_VarsOfTerm t (sortN t.names) := by
  refine via (w_impl_VarsOfTerm t (· = _) ?_)
  have := names_len t
  exact ⟨_, ok_impl_namesIn t ht hn, _, ok_impl_SortNames _ (by omega), rfl⟩
theorem ok_impl_RestrictSubst (l : List Bd) (ns : List Str) (hl : BOk l) (hn : ns.length < 68719476735) : C_impl_RestrictSubst l ns (restr l ns) := by
  refine via (w_impl_RestrictSubst l ns (· = restr l ns) ?_)
  refine ⟨_, ok_impl_SortNames ns hn, ?_⟩
  have hlen := sortN_len ns
  refine LOOP.up (sortN ns).length (fun k => ((sortN ns).take k).filterMap fun s => (bound l s).map fun t => ⟨s, t⟩) (by omega) (by simp) ?_
  intro k hk N hN
  try dsimp only
  refine ⟨fun h => ?_, fun h => ?_⟩
  · obtain ⟨u, hu⟩ := get_k h
    have hlt := lt_k h
    refine ⟨u, geti hu, _, ok_impl_FindBind l u hl, fun h2 => ⟨bnd (by have := restr_loop (l := l) (ns := sortN ns) (k := k); show _ + 1 ≤ _; omega) (by decide), hN hlt _ ?_⟩, fun h2 => hN hlt _ ?_⟩
    · rw [fm_snoc hu, boundT_some h2]
      rfl
    · rw [fm_snoc hu, bound_none h2]
      simp
  · rw [take_all (ge_k h)]
    rfl

/-- What a match gives. -/
def matchR (p t : Tm) : List Bd × Bool := if (p.mt t []).2 then (restr (p.mt t []).1 (sortN p.names), true) else ([], false)
theorem bok_nil : BOk [] := ⟨by decide, by simp, by simp⟩
theorem size_nodes (p : Tm) : p.nodes ≤ p.size := by
  induction p using Tm.ind with | h t ih =>
  have key : ∀ ts : List Tm, (∀ u ∈ ts, u.nodes ≤ u.size) → Tm.nodesL ts ≤ Tm.sizeL ts := by
    intro ts
    induction ts with
    | nil => intro _; simp [Tm.nodesL]
    | cons a ts ih2 =>
      intro h
      have h1 := h a (by simp)
      have h2 := ih2 fun u hu => h u (by simp [hu])
      simp only [Tm.nodesL, Tm.sizeL]
      omega
  have := key t.args ih
  rw [nodes_eq, Tm.size_eq]
  omega
section
variable {p t : Tm} (hp : p.Ok) (ht : t.Ok) (hs : p.size < 68719476735)
include hp ht hs
theorem ok_impl_MatchTerm : C_impl_MatchTerm p t (matchR p t) := by
  refine via (w_impl_MatchTerm p t (· = matchR p t) ?_)
  have hn := size_nodes p
  refine ⟨_, ok_impl_match p t [] hp ht bok_nil (by simpa using hs), fun h => ?_, fun h => ?_⟩
  · have e : (p.mt t []).2 = false := by simpa using h
    simp [matchR, e]
  · have e : (p.mt t []).2 = true := by simpa using h
    have hv := names_len p
    have hv2 := sortN_len p.names
    refine ⟨_, ok_impl_VarsOfTerm p hp (by omega), _, ok_impl_RestrictSubst _ _ (mt_bok hp ht bok_nil (by simpa using hs)) (by omega), ?_⟩
    simp [matchR, e]
theorem ok_spec_MatchTerm : C_spec_MatchTerm p t (matchR p t) := by
  refine via (w_spec_MatchTerm p t (· = matchR p t) ?_)
  have hn := size_nodes p
  obtain ⟨r, ⟨h1, h2⟩, h3⟩ := ok_spec_l8Match p t [] hp ht bok_nil (by simpa using hs)
  refine ⟨r, h3, fun h => ?_, fun h => ?_⟩
  · rw [h2 h]
    rw [h1] at h
    have hv := names_len p
    have hv2 := sortN_len p.names
    refine ⟨_, ok_spec_VarsOfTerm p hp (by omega), _, ok_spec_RestrictSubst _ _ (mt_bok hp ht bok_nil (by simpa using hs)) (by omega), ?_⟩
    simp [matchR, h]
  · rw [h1] at h
    simp [matchR, h]
theorem ok_impl_IsInstance : C_impl_IsInstance t p (p.mt t []).2 := by
  refine via (w_impl_IsInstance t p (· = _) ?_)
  exact ⟨_, ok_impl_match p t [] hp ht bok_nil (by simpa using hs), rfl⟩
theorem ok_spec_IsInstance : C_spec_IsInstance t p (p.mt t []).2 := by
  refine via (w_spec_IsInstance t p (· = _) ?_)
  refine ⟨_, ok_spec_MatchTerm hp ht hs, ?_⟩
  unfold matchR
  cases (p.mt t []).2 <;> rfl
end
def variantB (a b : Tm) : Bool := (b.mt a []).2 && (a.mt b []).2
theorem ok_impl_IsVariant {a b : Tm} (ha : a.Ok) (hb : b.Ok) (hs : a.size < 68719476735) (hs2 : b.size < 68719476735) : C_impl_IsVariant a b (variantB a b) := by
  refine via (w_impl_IsVariant a b (· = _) ?_)
  refine ⟨_, ok_impl_IsInstance hb ha hs2, fun h => ⟨_, ok_impl_IsInstance ha hb hs, ?_⟩, fun h => ?_⟩
  · simp [variantB, h]
  · simp [variantB, h]
theorem ok_spec_IsVariant {a b : Tm} (ha : a.Ok) (hb : b.Ok) (hs : a.size < 68719476735) (hs2 : b.size < 68719476735) : C_spec_IsVariant a b (variantB a b) := by
  refine via (w_spec_IsVariant a b (· = _) ?_)
  refine ⟨_, ok_spec_IsInstance hb ha hs2, fun h => ⟨_, ok_spec_IsInstance ha hb hs, ?_⟩, fun h => ?_⟩
  · simp [variantB, h]
  · simp [variantB, h]
theorem ok_impl_value (l : List Bd) (s : Str) (hl : BOk l) (hs : s.length < 68719476735) : C_impl_value l s ((Tm.mk 1 0 s []).apply l) := by
  refine via (w_impl_value l s (· = _) ?_)
  exact ⟨_, ok_impl_ApplySubst l hl _ (.mk _ (by simp [Tm.args]) (by simpa only [Tm.mk_name] using hs) (by simp [Tm.args])), rfl⟩
def sameB (a b : List Bd) : Bool := (a ++ b).all fun x => ((Tm.mk 1 0 x.name []).apply a).eqb ((Tm.mk 1 0 x.name []).apply b)
theorem apply_okv {l : List Bd} {s : Str} (hl : BOk l) (hs : s.length < 68719476735) : ((Tm.mk 1 0 s []).apply l).Ok := by
  have h0 : (Tm.mk 1 0 s []).Ok := .mk _ (by simp [Tm.args]) (by simpa only [Tm.mk_name] using hs) (by simp [Tm.args])
  rcases apply_cases l (Tm.mk 1 0 s []) with ⟨b, hb, e⟩ | e
  · rw [e]
    exact hl.tm b hb
  · rw [e]
    exact h0
theorem all_step {α : Type} {xs : List α} {k : Nat} {u : α} {f : α → Bool} (hu : xs[k]? = some u) (h : (xs.take k).all f = true) : (f u = true → (xs.take (k + 1)).all f = true) ∧ (f u = false → xs.all f = false) := by
  rw [← take_snoc hu, List.all_append, h]
  refine ⟨fun h2 => by simp [h2], fun h2 => ?_⟩
  rw [List.all_eq_false]
  exact ⟨u, List.mem_of_getElem? hu, by simp [h2]⟩
section
variable {a b : List Bd} (ha : BOk a) (hb : BOk b) (hab : a.length + b.length < 68719476735)
include ha hb hab
theorem ab_ok : BOk (a ++ b) := ⟨by rw [List.length_append]; omega, fun x hx => by
    rcases List.mem_append.1 hx with h | h
    · exact ha.tm x h
    · exact hb.tm x h, fun x hx => by
    rcases List.mem_append.1 hx with h | h
    · exact ha.nm x h
    · exact hb.nm x h⟩
theorem ok_impl_SameSubst : C_impl_SameSubst a b (sameB a b) := by
  refine via (w_impl_SameSubst a b (· = sameB a b) ?_)
  refine ⟨_, ok_Concat a b hab, ?_⟩
  have hok := ab_ok ha hb hab
  refine LOOP.up1 (a ++ b).length (fun k => ((a ++ b).take k).all (fun x => ((Tm.mk 1 0 x.name []).apply a).eqb ((Tm.mk 1 0 x.name []).apply b)) = true) (by have := hok.len; omega) (by simp) ?_
  intro k hk hP N hN
  try dsimp only
  refine ⟨fun h => ?_, fun h => ?_⟩
  · obtain ⟨u, hu⟩ := get_k h
    have hun := hok.nm u (List.mem_of_getElem? hu)
    have hst := all_step hu hP
    refine ⟨u, geti hu, _, ok_impl_value a u.name ha hun, _, ok_impl_value b u.name hb hun, _, ok_impl_EqualTerm _ _ (apply_okv ha hun), fun h2 => ?_, fun h2 => hN (lt_k h) (hst.1 (by simpa using h2))⟩
    exact (hst.2 (by simpa using h2)).symm
  · rw [take_all (ge_k h)] at hP
    exact hP.symm
theorem ok_spec_SameSubst : C_spec_SameSubst a b (sameB a b) := by
  refine via (w_spec_SameSubst a b (· = sameB a b) ?_)
  have hok := ab_ok ha hb hab
  refine ⟨bnd (by simp; omega) (by decide), bnd (by simp; omega) (by decide), ?_⟩
  simp only [List.nil_append]
  refine LOOP.up1 (a ++ b).length (fun k => ((a ++ b).take k).all (fun x => ((Tm.mk 1 0 x.name []).apply a).eqb ((Tm.mk 1 0 x.name []).apply b)) = true) (by have := hok.len; omega) (by simp) ?_
  intro k hk hP N hN
  try dsimp only
  refine ⟨fun h => ?_, fun h => ?_⟩
  · obtain ⟨u, hu⟩ := get_k h
    have hun := hok.nm u (List.mem_of_getElem? hu)
    have hst := all_step hu hP
    have h0 : (Tm.mk 1 0 u.name []).Ok := .mk _ (by simp [Tm.args]) (by simpa only [Tm.mk_name] using hun) (by simp [Tm.args])
    refine ⟨u, geti hu, _, ok_spec_l3Var _, _, ok_spec_ApplySubst a ha _ h0, _, ok_spec_ApplySubst b hb _ h0, _, ok_spec_EqualTerm _ _ (apply_okv ha hun), fun h2 => ?_, fun h2 => hN (lt_k h) (hst.1 (by simpa using h2))⟩
    exact (hst.2 (by simpa using h2)).symm
  · rw [take_all (ge_k h)] at hP
    exact hP.symm
end
theorem sameB_refl (a : List Bd) : sameB a a = true := by
  unfold sameB
  rw [List.all_eq_true]
  intro x _
  exact eqb_refl _

/-! ### The laws' own comparison -/

theorem ok_spec_l13Ints_refl (l : List Int) (hl : l.length < 68719476735) : C_spec_l13Ints l l true := by
  refine via (w_spec_l13Ints l l (· = true) ?_)
  refine ⟨fun h => absurd rfl (len_ne h), fun _ => ?_⟩
  refine LOOP.up1 l.length (fun _ => True) (by omega) trivial ?_
  intro k hk _ N hN
  refine ⟨fun h => ?_, fun h => rfl⟩
  obtain ⟨u, hu⟩ := get_k h
  refine ⟨u, geti hu, u, geti hu, fun h2 => ?_, fun _ => hN (lt_k h) trivial⟩
  simp at h2
theorem ok_spec_l22Binds_refl (l : List Bd) (hl : BOk l) : C_spec_l22Binds l l true := by
  refine via (w_spec_l22Binds l l (· = true) ?_)
  refine ⟨fun h => absurd rfl (len_ne h), fun _ => ?_⟩
  refine LOOP.up1 l.length (fun _ => True) (by have := hl.len; omega) trivial ?_
  intro k hk _ N hN
  refine ⟨fun h => ?_, fun h => rfl⟩
  obtain ⟨u, hu⟩ := get_k h
  refine ⟨u, geti hu, u, geti hu, fun h2 => ?_, fun _ => ⟨u, geti hu, u, geti hu, _, ok_spec_EqualTerm _ _ (hl.tm u (List.mem_of_getElem? hu)), fun h2 => ?_, fun _ => hN (lt_k h) trivial⟩⟩
  · simp at h2
  · rw [eqb_refl] at h2
    cases h2
theorem ok_sameBinds (l : List Bd) (hl : BOk l) : C_laws_sameBinds l l true := by
  refine via (w_laws_sameBinds l l (· = true) ?_)
  refine ⟨true, ?_, rfl⟩
  refine via (w_spec_EqualProof _ _ (· = true) ?_)
  refine ⟨fun h => absurd rfl (len_ne h), fun _ => ?_⟩
  refine LOOP.up1 1 (fun _ => True) (by decide) trivial ?_
  intro k hk _ N hN
  refine ⟨fun h => ?_, fun h => rfl⟩
  have hlt := lt_k h
  have hk0 : k < 1 := hlt
  obtain rfl : k = 0 := by omega
  refine ⟨_, geti0 rfl, _, geti0 rfl, fun h2 => ?_, fun _ => ⟨fun h2 => ?_, fun _ => ⟨true, ok_spec_l13Ints_refl [] (by decide), fun h2 => ?_, fun _ => ⟨true, ok_spec_l22Binds_refl l hl, fun h2 => ?_, fun _ => hN (by decide) trivial⟩⟩⟩⟩
  · simp at h2
  · simp at h2
  · cases h2
  · cases h2
theorem ok_big (xs : List Int) : C_laws_big xs (decide (((List.length xs : Nat) : Int) > (1048576 : Int))) := via (w_laws_big xs (· = _) rfl)

/-! ### The laws -/

theorem law_FnMatched (xs : List Int) : C_laws_FnMatched xs true := by
  refine via (w_laws_FnMatched xs (· = true) ?_)
  refine ⟨_, ok_big xs, fun _ => rfl, fun h => ?_⟩
  have hlen : xs.length ≤ 1048576 := by
    have := of_decide_eq_false h
    omega
  obtain ⟨r, ⟨⟨hp, ht⟩, _⟩, hr⟩ := dr_DrawMatchTerm xs hlen
  obtain ⟨v, ⟨⟨hv1, hv2⟩, _⟩, hv⟩ := dr_DrawIsVariant xs hlen
  have hpo := hp.ok (by decide) (by decide)
  have hto := ht.ok (by decide) (by decide)
  have hps : r.1.size < 68719476735 := by have := hp.size; omega
  have hv1o := hv1.ok (by decide) (by decide)
  have hv2o := hv2.ok (by decide) (by decide)
  have hv1s : v.1.size < 68719476735 := by have := hv1.size; omega
  have hv2s : v.2.size < 68719476735 := by have := hv2.size; omega
  have hmt := mt_bok hpo hto bok_nil (by simpa using hps)
  have hmr : BOk (matchR r.1 r.2).1 := by
    unfold matchR
    split
    · refine ⟨?_, ?_, ?_⟩
      · have h1 := restr_loop (l := (r.1.mt r.2 []).1) (ns := sortN (sortN r.1.names)) (k := (sortN (sortN r.1.names)).length)
        rw [List.take_length] at h1
        have h2 := sortN_len (sortN r.1.names)
        have h3 := sortN_len r.1.names
        have h4 := names_len r.1
        have h5 := hp.nodes
        show (List.filterMap _ _).length < _
        omega
      · intro b hb
        simp only [restr, List.mem_filterMap, Option.map_eq_some_iff] at hb
        obtain ⟨s, _, t, hbt, rfl⟩ := hb
        obtain ⟨b', h1, h2, _⟩ := bound_mem hbt
        rw [← h2]
        exact hmt.tm b' h1
      · intro b hb
        simp only [restr, List.mem_filterMap, Option.map_eq_some_iff] at hb
        obtain ⟨s, _, t, hbt, rfl⟩ := hb
        obtain ⟨b', h1, _, h3⟩ := bound_mem hbt
        rw [← h3]
        exact hmt.nm b' h1
    · exact bok_nil
  have h2eq : (matchR r.1 r.2).2 = (r.1.mt r.2 []).2 := by
    unfold matchR
    cases (r.1.mt r.2 []).2 <;> rfl
  refine ⟨r, hr, _, ok_impl_MatchTerm hpo hto hps, _, ok_spec_MatchTerm hpo hto hps, fun h2 => ?_, fun _ => ⟨true, ok_sameBinds _ hmr, fun h2 => ?_, fun _ => ⟨_, ok_impl_IsInstance hpo hto hps, fun h2 => ?_, fun _ => ⟨v, hv, fun h2 => ⟨_, ok_impl_IsVariant hv1o hv2o hv1s hv2s, _, ok_spec_IsVariant hv1o hv2o hv1s hv2s, ?_⟩, fun h2 => ?_⟩⟩⟩⟩
  · simp at h2
  · cases h2
  · rw [h2eq] at h2
    simp at h2
  · simp
  · have h3 : (r.1.mt r.2 []).2 = true := by
      rw [h2eq] at h2
      simpa using h2
    have e : r.1.apply (matchR r.1 r.2).1 = r.2 := by
      have h4 : (matchR r.1 r.2).1 = restr (r.1.mt r.2 []).1 (sortN r.1.names) := by
        unfold matchR
        rw [h3]
        rfl
      rw [h4]
      exact match_eq h3
    refine ⟨_, ok_impl_ApplySubst _ hmr _ hpo, _, ok_spec_EqualTerm _ _ (by rw [e]; exact hto), fun _ => ⟨_, ok_impl_IsVariant hv1o hv2o hv1s hv2s, _, ok_spec_IsVariant hv1o hv2o hv1s hv2s, ?_⟩, fun h4 => ?_⟩
    · simp
    · rw [e, eqb_refl] at h4
      cases h4

end Go.Proofs.Ytfhgjhchjekbgaa
set_option linter.unusedVariables false
set_option linter.unusedSimpArgs false
namespace Go.Proofs.Ytfhgjhchjekbgaa
open Go

theorem Sm.applyOk {l : List Bd} {n m : Nat} {t : Tm} (ht : Small n t) (hl : SBd 3 m l) (hm : 1 ≤ m) (hb : n * m < 68719476735) : Small (n * m) (t.apply l) :=
  (apply_sm hm hl.tm t ht.nm).mono (Nat.mul_le_mul_right _ ht.nodes)
theorem comp_bok {a b : List Bd} (ha : SBd 3 15 a) (hb : SBd 3 15 b) : BOk (comp a b) := by
  have hl1 := ha.len
  have hl2 := hb.len
  refine ⟨?_, ?_, ?_⟩
  · unfold comp
    rw [List.length_append, List.length_map]
    have := List.length_filter_le (fun x => !(bound a x.name).isSome) b
    omega
  · intro x hx
    unfold comp at hx
    rcases List.mem_append.1 hx with h | h
    · obtain ⟨y, hy, rfl⟩ := List.mem_map.1 h
      exact (Sm.applyOk (ha.tm y hy) hb (by decide) (by decide)).ok (by decide) (by decide)
    · exact (hb.tm x ((List.mem_filter.1 h).1)).ok (by decide) (by decide)
  · intro x hx
    unfold comp at hx
    rcases List.mem_append.1 hx with h | h
    · obtain ⟨y, hy, rfl⟩ := List.mem_map.1 h
      have := ha.nm y hy
      show y.name.length < _
      omega
    · have := hb.nm x ((List.mem_filter.1 h).1)
      omega
theorem restr_bok {l : List Bd} {ns : List Str} (hl : BOk l) (hn : ns.length < 68719476735) : BOk (restr l ns) := by
  refine ⟨?_, ?_, ?_⟩
  · have h1 := restr_loop (l := l) (ns := sortN ns) (k := (sortN ns).length)
    rw [List.take_length] at h1
    have h2 := sortN_len ns
    show (List.filterMap _ _).length < _
    omega
  · intro b hb
    simp only [restr, List.mem_filterMap, Option.map_eq_some_iff] at hb
    obtain ⟨s, _, t, hbt, rfl⟩ := hb
    obtain ⟨b', h1, h2, _⟩ := bound_mem hbt
    rw [← h2]
    exact hl.tm b' h1
  · intro b hb
    simp only [restr, List.mem_filterMap, Option.map_eq_some_iff] at hb
    obtain ⟨s, _, t, hbt, rfl⟩ := hb
    obtain ⟨b', h1, _, h3⟩ := bound_mem hbt
    rw [← h3]
    exact hl.nm b' h1
theorem law_FnSubst (xs : List Int) : C_laws_FnSubst xs true := by
  refine via (w_laws_FnSubst xs (· = true) ?_)
  refine ⟨_, ok_big xs, fun _ => rfl, fun h => ?_⟩
  have hlen : xs.length ≤ 1048576 := by
    have := of_decide_eq_false h
    omega
  obtain ⟨r, ⟨ha, hb⟩, hr⟩ := dr_DrawComposeSubst xs hlen
  obtain ⟨v, ⟨hv1, hv2⟩, hv⟩ := dr_DrawApplySubst xs hlen
  obtain ⟨w, ⟨hw1, hw2⟩, hw⟩ := dr_DrawRestrictSubst xs hlen
  obtain ⟨z, ⟨hz1, hz2⟩, hz⟩ := dr_DrawSameSubst xs hlen
  have ao := ha.bok (by decide) (by decide)
  have bo := hb.bok (by decide) (by decide)
  have co := comp_bok ha hb
  have ab : r.1.length + r.2.length < 68719476735 := by have := ha.len; have := hb.len; omega
  have aa : r.1.length + r.1.length < 68719476735 := by have := ha.len; omega
  have zz : z.1.length + z.2.length < 68719476735 := by have := hz1.len; have := hz2.len; omega
  have to := hv2.ok (by decide) (by decide)
  have ta := (Sm.applyOk hv2 ha (by decide) (by decide)).ok (by decide) (by decide)
  have tb := (Sm.applyOk (Sm.applyOk hv2 ha (by decide) (by decide)) hb (by decide) (by decide)).ok (by decide) (by decide)
  have wo := hw1.bok (by decide) (by decide)
  have zo1 := hz1.bok (by decide) (by decide)
  have zo2 := hz2.bok (by decide) (by decide)
  have e := comp_eq r.1 r.2 v.2
  refine ⟨r, hr, v, hv, _, ok_impl_ComposeSubst _ _ ao bo ab, _, ok_impl_ApplySubst _ co _ to, _, ok_impl_ApplySubst _ ao _ to, _, ok_impl_ApplySubst _ bo _ ta, _, ok_spec_EqualTerm _ _ (by rw [e]; exact tb), fun h2 => ?_, fun _ => ⟨_, ok_spec_ComposeSubst _ _ ao bo ab, true, ok_sameBinds _ co, fun h2 => ?_, fun _ => ⟨w, hw, _, ok_impl_RestrictSubst _ _ wo (by omega), z, hz, _, ok_spec_RestrictSubst _ _ wo (by omega), true, ok_sameBinds _ (restr_bok wo (by omega)), fun _ => ⟨_, ok_impl_SameSubst zo1 zo2 zz, _, ok_spec_SameSubst zo1 zo2 zz, fun _ => ⟨_, ok_impl_SameSubst ao ao aa, sameB_refl _⟩, fun h2 => ?_⟩, fun h2 => ?_⟩⟩⟩
  · rw [e, eqb_refl] at h2
    cases h2
  · cases h2
  · simp at h2
  · cases h2
end Go.Proofs.Ytfhgjhchjekbgaa
set_option linter.unusedVariables false
set_option linter.unusedSimpArgs false
namespace Go.Proofs.Ytfhgjhchjekbgaa
open Go

abbrev Eqs := List (Tm × Tm)
def bindP (l : List Bd) (s : Str) (t : Tm) : Option (List Bd × Eqs) := if t.names.contains s then none else some (comp l [⟨s, t⟩], [])
def pairP (l : List Bd) (r s : Tm) : Option (List Bd × Eqs) :=
  if r.eqb s then some (l, [])
  else if r.kind == 1 then bindP l r.name s
  else if s.kind == 1 then bindP l s.name r
  else if r.kind == 2 && s.kind == 2 && r.name == s.name && r.args.length == s.args.length then some (l, r.args.zip s.args) else none
def stepP (l : List Bd) (e : Tm × Tm) : Option (List Bd × Eqs) := pairP l (e.1.apply l) (e.2.apply l)
def large (l : List Bd) : Bool := l.any fun b => decide (400 < b.term.nodes)

theorem bindP_some {l l' : List Bd} {s : Str} {t : Tm} {new : Eqs} (h : bindP l s t = some (l', new)) : s ∉ t.names ∧ l' = comp l [⟨s, t⟩] ∧ new = [] := by
  unfold bindP at h
  split at h
  · cases h
  · rename_i hc
    simp only [Option.some.injEq, Prod.mk.injEq] at h
    exact ⟨by simpa using hc, h.1.symm, h.2.symm⟩
theorem pairP_some {l l' : List Bd} {r s : Tm} {new : Eqs} (h : pairP l r s = some (l', new)) :
    (r = s ∧ l' = l ∧ new = []) ∨ (∃ v t, ((r.kind = 1 ∧ v = r.name ∧ t = s) ∨ (s.kind = 1 ∧ v = s.name ∧ t = r)) ∧ v ∉ t.names ∧ l' = comp l [⟨v, t⟩] ∧ new = []) ∨
    (r.kind = 2 ∧ s.kind = 2 ∧ r.name = s.name ∧ r.args.length = s.args.length ∧ l' = l ∧ new = r.args.zip s.args) := by
  unfold pairP at h
  split at h
  · rename_i he
    simp only [Option.some.injEq, Prod.mk.injEq] at h
    exact .inl ⟨eqb_of he, h.1.symm, h.2.symm⟩
  · split at h
    · rename_i hk
      obtain ⟨h1, h2, h3⟩ := bindP_some h
      exact .inr (.inl ⟨_, _, .inl ⟨by simpa using hk, rfl, rfl⟩, h1, h2, h3⟩)
    · split at h
      · rename_i hk
        obtain ⟨h1, h2, h3⟩ := bindP_some h
        exact .inr (.inl ⟨_, _, .inr ⟨by simpa using hk, rfl, rfl⟩, h1, h2, h3⟩)
      · split at h
        · rename_i hc
          simp only [Bool.and_eq_true, beq_iff_eq] at hc
          simp only [Option.some.injEq, Prod.mk.injEq] at h
          exact .inr (.inr ⟨hc.1.1.1, hc.1.1.2, hc.1.2, hc.2, h.1.symm, h.2.symm⟩)
        · cases h

/-! ### Names and substitutions -/

theorem apply_nil (t : Tm) : t.apply [] = t := by
  induction t using Tm.ind with | h t ih =>
  rw [Tm.apply_new (.inr rfl)]
  have : t.args.map (Tm.apply []) = t.args := by
    rw [List.map_congr_left (g := id) fun u hu => ih u hu]
    simp
  rw [this]
  exact Tm.eta t
theorem apply_free {l : List Bd} {t : Tm} (h : ∀ n ∈ t.names, bound l n = none) : t.apply l = t := by
  rw [apply_congr (l' := []) t fun s hs => h s hs]
  exact apply_nil t
theorem mem_namesL {s : Str} {ts : List Tm} (h : s ∈ Tm.namesL ts) : ∃ u ∈ ts, s ∈ u.names := by
  induction ts with
  | nil => simp [Tm.namesL] at h
  | cons t ts ih =>
    simp only [Tm.namesL, List.mem_append] at h
    rcases h with h | h
    · exact ⟨t, by simp, h⟩
    · obtain ⟨u, hu, h⟩ := ih h
      exact ⟨u, by simp [hu], h⟩
theorem names_kind {t : Tm} (h : t.kind = 1) : t.name ∈ t.names := by
  rw [names_eq, h]
  simp
theorem names_arg {t u : Tm} (h : u ∈ t.args) {s : Str} (hs : s ∈ u.names) : s ∈ t.names := by
  rw [names_eq, List.mem_append]
  exact .inr (namesL_mem h hs)
/-- The names of a term after a substitution. -/
theorem apply_names {l : List Bd} {n : Str} (t : Tm) : n ∈ (t.apply l).names → (n ∈ t.names ∧ bound l n = none) ∨ ∃ s ∈ t.names, ∃ u, bound l s = some u ∧ n ∈ u.names := by
  induction t using Tm.ind with | h t ih =>
  intro h
  have new : (t.kind == 1) = false ∨ bound l t.name = none → (n ∈ t.names ∧ bound l n = none) ∨ ∃ s ∈ t.names, ∃ u, bound l s = some u ∧ n ∈ u.names := by
    intro hn
    rw [Tm.apply_new hn, names_eq, List.mem_append] at h
    rcases h with h | h
    · split at h
      · rename_i hk
        have hk : (t.kind == 1) = true := hk
        have e : n = t.name := List.mem_singleton.1 h
        subst e
        refine .inl ⟨names_kind (by simpa using hk), ?_⟩
        rcases hn with hn | hn
        · rw [hk] at hn
          cases hn
        · exact hn
      · cases h
    · rw [Tm.mk_args] at h
      obtain ⟨v, hv, h⟩ := mem_namesL h
      obtain ⟨u, hu, rfl⟩ := List.mem_map.1 hv
      rcases ih u hu h with ⟨h1, h2⟩ | ⟨s, h1, w, h2, h3⟩
      · exact .inl ⟨names_arg hu h1, h2⟩
      · exact .inr ⟨s, names_arg hu h1, w, h2, h3⟩
  cases hk : (t.kind == 1) with
  | false => exact new (.inl hk)
  | true =>
    cases hb : bound l t.name with
    | none => exact new (.inr hb)
    | some u =>
      rw [Tm.apply_var hk hb] at h
      exact .inr ⟨t.name, names_kind (by simpa using hk), u, hb, h⟩
/-- No name that is bound occurs in a term that it is bound to. -/
def Idem (l : List Bd) : Prop := ∀ s u, bound l s = some u → ∀ n ∈ u.names, bound l n = none
theorem Idem.free {l : List Bd} (h : Idem l) {t : Tm} {n : Str} (hn : n ∈ (t.apply l).names) : bound l n = none := by
  rcases apply_names t hn with ⟨_, h2⟩ | ⟨s, _, u, h2, h3⟩
  · exact h2
  · exact h s u h2 n h3
theorem Idem.twice {l : List Bd} (h : Idem l) (t : Tm) : (t.apply l).apply l = t.apply l := apply_free fun n hn => h.free hn
theorem apply_one_free {v : Str} {t u : Tm} (h : v ∉ u.names) : u.apply [⟨v, t⟩] = u := by
  refine apply_free fun n hn => ?_
  rw [bound_one]
  have : (v == n) = false := by
    cases e : (v == n)
    · rfl
    · have : v = n := by simpa using e
      subst this
      exact absurd hn h
  rw [this]
  rfl
theorem bound_comp1 (l : List Bd) (v : Str) (t : Tm) (s : Str) : bound (comp l [⟨v, t⟩]) s = match bound l s with
    | some u => some (u.apply [⟨v, t⟩])
    | none => if v == s then some t else none := by
  rw [bound_comp, bound_one]
  cases bound l s <;> rfl
theorem Idem.comp {l : List Bd} (h : Idem l) {v : Str} {t : Tm} (hv : v ∉ t.names) (ht : ∀ n ∈ t.names, bound l n = none) : Idem (comp l [⟨v, t⟩]) := by
  have ht' : ∀ n ∈ t.names, bound (Go.Proofs.Ytfhgjhchjekbgaa.comp l [⟨v, t⟩]) n = none := by
    intro n hn
    rw [bound_comp1, ht n hn]
    have : (v == n) = false := by
      cases e : (v == n)
      · rfl
      · have : v = n := by simpa using e
        subst this
        exact absurd hn hv
    simp [this]
  intro s u hu n hn
  rw [bound_comp1] at hu
  cases e : bound l s with
  | none =>
    rw [e] at hu
    simp only at hu
    split at hu
    · cases hu
      exact ht' n hn
    · cases hu
  | some w =>
    rw [e] at hu
    simp only [Option.some.injEq] at hu
    subst hu
    rcases apply_names w hn with ⟨h1, h2⟩ | ⟨x, h1, y, h2, h3⟩
    · rw [bound_comp1, h s w e n h1]
      rw [bound_one] at h2
      simpa using h2
    · rw [bound_one] at h2
      split at h2
      · cases h2
        exact ht' n h3
      · cases h2

/-! ### Weights -/

mutual
/-- The weight of a term whose variables weigh ω. -/
def Tm.wt (ω : Str → Nat) : Tm → Nat
  | .mk k _ s a => if k == 1 then ω s else 1 + Tm.wtL ω a
def Tm.wtL (ω : Str → Nat) : List Tm → Nat
  | [] => 0
  | t :: ts => t.wt ω + Tm.wtL ω ts
end
theorem wt_eq (ω : Str → Nat) (t : Tm) : t.wt ω = if t.kind == 1 then ω t.name else 1 + Tm.wtL ω t.args := by cases t; simp [Tm.wt, Tm.kind, Tm.name, Tm.args]
theorem wtL_congr {ω ω' : Str → Nat} {f : Tm → Tm} : ∀ {ts : List Tm}, (∀ u ∈ ts, (f u).wt ω = u.wt ω') → Tm.wtL ω (ts.map f) = Tm.wtL ω' ts
  | [], _ => rfl
  | t :: ts, h => by
    simp only [List.map_cons, Tm.wtL]
    rw [h t (by simp), wtL_congr fun u hu => h u (by simp [hu])]
def liftW (ω : Str → Nat) (l : List Bd) (s : Str) : Nat := match bound l s with
  | some u => u.wt ω
  | none => ω s
theorem wt_apply (ω : Str → Nat) (l : List Bd) (t : Tm) : (t.apply l).wt ω = t.wt (liftW ω l) := by
  induction t using Tm.ind with | h t ih =>
  cases hk : (t.kind == 1) with
  | false =>
    rw [Tm.apply_new (.inl hk), wt_eq, wt_eq _ t]
    simp only [Tm.mk_kind, Tm.mk_args, hk]
    rw [wtL_congr ih]
    rfl
  | true =>
    rw [wt_eq _ t, hk]
    simp only [if_true]
    unfold liftW
    cases hb : bound l t.name with
    | none =>
      rw [Tm.apply_new (.inr hb), wt_eq]
      simp only [Tm.mk_kind, Tm.mk_name, hk]
      rfl
    | some u => rw [Tm.apply_var hk hb]
def w1 : Str → Nat := fun _ => 1
theorem wt_nodes {t : Tm} : t.Wf → t.wt w1 = t.nodes := by
  induction t using Tm.ind with | h t ih =>
  intro h
  have key : ∀ ts : List Tm, (∀ u ∈ ts, u.wt w1 = u.nodes) → Tm.wtL w1 ts = Tm.nodesL ts := by
    intro ts
    induction ts with
    | nil => intro _; rfl
    | cons a ts ih2 =>
      intro h
      simp only [Tm.wtL, Tm.nodesL]
      rw [h a (by simp), ih2 fun u hu => h u (by simp [hu])]
  rw [wt_eq, nodes_eq, key t.args fun u hu => ih u hu (h.args u hu)]
  split
  · rename_i hk
    have hk : t.kind = 1 := by simpa using hk
    rw [h.leaf (by rw [hk]; decide)]
    rfl
  · rfl
def sumL (ω : Str → Nat) (l : List Bd) (eqs : Eqs) : Nat := Tm.wtL ω (eqs.map fun e => e.1.apply l)
def sumR (ω : Str → Nat) (l : List Bd) (eqs : Eqs) : Nat := Tm.wtL ω (eqs.map fun e => e.2.apply l)
theorem wtL_append (ω : Str → Nat) (a b : List Tm) : Tm.wtL ω (a ++ b) = Tm.wtL ω a + Tm.wtL ω b := by
  induction a with
  | nil => simp [Tm.wtL]
  | cons t a ih => simp [Tm.wtL, ih]; omega
theorem wtL_comp (ω : Str → Nat) (l : List Bd) (v : Str) (t : Tm) (f : Tm × Tm → Tm) (eqs : Eqs) : Tm.wtL ω (eqs.map fun e => (f e).apply (comp l [⟨v, t⟩])) = Tm.wtL (liftW ω [⟨v, t⟩]) (eqs.map fun e => (f e).apply l) := by
  induction eqs with
  | nil => rfl
  | cons e eqs ih =>
    simp only [List.map_cons, Tm.wtL]
    rw [ih, comp_eq, wt_apply]
theorem wt_pos {t : Tm} (h : t.Wf) : 1 ≤ t.wt w1 := by
  rw [wt_nodes h, nodes_eq]
  omega

/-! ### What a step keeps -/

def free (l : List Bd) (N : List Str) : Nat := N.countP fun n => (bound l n).isNone
theorem countP_le_of {N : List Str} {f g : Str → Bool} (h : ∀ n ∈ N, f n = true → g n = true) : N.countP f ≤ N.countP g := List.countP_mono_left h
theorem countP_lt_of {N : List Str} {f g : Str → Bool} (h : ∀ n ∈ N, f n = true → g n = true) {v : Str} (hv : v ∈ N) (hf : f v = false) (hg : g v = true) : N.countP f < N.countP g := by
  induction N with
  | nil => cases hv
  | cons x N ih =>
    rw [List.countP_cons, List.countP_cons]
    rcases List.mem_cons.1 hv with rfl | hv
    · have := countP_le_of (N := N) (f := f) (g := g) fun n hn => h n (by simp [hn])
      rw [hf, hg]
      simp
      omega
    · have := ih (fun n hn => h n (by simp [hn])) hv
      have hx := h x (by simp)
      cases e : f x
      · simp
        split <;> omega
      · rw [hx e]
        simp
        omega
theorem free_comp {l : List Bd} {N : List Str} {v : Str} {t : Tm} (hv : v ∈ N) (hb : bound l v = none) : free (comp l [⟨v, t⟩]) N < free l N := by
  unfold free
  refine countP_lt_of (fun n hn h => ?_) hv ?_ ?_
  · rw [bound_comp1] at h
    cases e : bound l n with
    | none => rfl
    | some u =>
      rw [e] at h
      cases h
  · rw [bound_comp1, hb]
    simp
  · rw [hb]
    rfl
theorem comp1_len (l : List Bd) (v : Str) (t : Tm) : (comp l [⟨v, t⟩]).length ≤ l.length + 1 := by
  unfold comp
  rw [List.length_append, List.length_map]
  have := List.length_filter_le (fun x => !(bound l x.name).isSome) [(⟨v, t⟩ : Bd)]
  have e : [(⟨v, t⟩ : Bd)].length = 1 := rfl
  omega
theorem comp1_mem {l : List Bd} {v : Str} {t : Tm} {x : Bd} (h : x ∈ comp l [⟨v, t⟩]) : (∃ y ∈ l, x = ⟨y.name, y.term.apply [⟨v, t⟩]⟩) ∨ x = ⟨v, t⟩ := by
  unfold comp at h
  rcases List.mem_append.1 h with h | h
  · obtain ⟨y, hy, rfl⟩ := List.mem_map.1 h
    exact .inl ⟨y, hy, rfl⟩
  · have := (List.mem_filter.1 h).1
    exact .inr (by simpa using this)
structure Inv (a b : Tm) (l : List Bd) (eqs : Eqs) : Prop where
  mk ::
  idem : Idem l
  tm : ∀ x ∈ l, Sm 20 400 x.term
  wf : ∀ x ∈ l, x.term.Wf
  bn : ∀ x ∈ l, x.name.length ≤ 20
  ln : ∀ x ∈ l, ∀ n ∈ x.term.names, n ∈ a.names ++ b.names
  cnt : l.length + free l (a.names ++ b.names) ≤ (a.names ++ b.names).length
  ew : ∀ e ∈ eqs, (e.1.Nm 20 ∧ e.1.Wf) ∧ e.2.Nm 20 ∧ e.2.Wf
  en : ∀ e ∈ eqs, ∀ n ∈ e.1.names ++ e.2.names, n ∈ a.names ++ b.names
  wl : ∀ ω, sumL ω l eqs ≤ (a.apply l).wt ω
  wr : ∀ ω, sumR ω l eqs ≤ (b.apply l).wt ω
  sol : ∀ σ, (∀ e ∈ eqs, (e.1.apply l).apply σ = (e.2.apply l).apply σ) → (a.apply l).apply σ = (b.apply l).apply σ
theorem inv_start {a b : Tm} (ha : Sm 20 225 a) (hb : Sm 20 225 b) (wa : a.Wf) (wb : b.Wf) : Inv a b [] [(a, b)] := by
  refine ⟨fun s u h => (by cases h), by simp, by simp, by simp, by simp, ?_, ?_, ?_, fun ω => ?_, fun ω => ?_, fun σ h => h (a, b) (by simp)⟩
  · have := List.countP_le_length (p := fun n => (bound [] n).isNone) (l := a.names ++ b.names)
    show 0 + free [] _ ≤ _
    unfold free
    omega
  · rintro e he
    obtain rfl : e = (a, b) := by simpa using he
    exact ⟨⟨ha.nm, wa⟩, hb.nm, wb⟩
  · rintro e he
    obtain rfl : e = (a, b) := by simpa using he
    exact fun n hn => hn
  · simp [sumL, Tm.wtL]
  · simp [sumR, Tm.wtL]
/-- The names of a term after a substitution that is kept. -/
theorem Inv.names {a b : Tm} {l : List Bd} {eqs : Eqs} (h : Inv a b l eqs) {t : Tm} (ht : ∀ n ∈ t.names, n ∈ a.names ++ b.names) {n : Str} (hn : n ∈ (t.apply l).names) : n ∈ a.names ++ b.names := by
  rcases apply_names t hn with ⟨h1, _⟩ | ⟨s, h1, u, h2, h3⟩
  · exact ht n h1
  · obtain ⟨x, hx, rfl, _⟩ := bound_mem h2
    exact h.ln x hx n h3
def mu (a b : Tm) (l : List Bd) (eqs : Eqs) : Nat := free l (a.names ++ b.names) * 200000 + (sumL w1 l eqs + sumR w1 l eqs)
section
variable {a b : Tm} (ha : Sm 20 225 a) (hb : Sm 20 225 b) (wa : a.Wf) (wb : b.Wf)
include ha hb wa wb
theorem Inv.sumLe {l : List Bd} {eqs : Eqs} (h : Inv a b l eqs) : sumL w1 l eqs ≤ 90000 ∧ sumR w1 l eqs ≤ 90000 := by
  constructor
  · refine Nat.le_trans (h.wl w1) ?_
    rw [wt_nodes (apply_wf h.wf a wa)]
    have := (apply_sm (by decide) h.tm a ha.nm).nodes
    have := ha.nodes
    omega
  · refine Nat.le_trans (h.wr w1) ?_
    rw [wt_nodes (apply_wf h.wf b wb)]
    have := (apply_sm (by decide) h.tm b hb.nm).nodes
    have := hb.nodes
    omega
theorem Inv.ends {l : List Bd} {x y : Tm} {rest : Eqs} (h : Inv a b l ((x, y) :: rest)) : (Sm 20 90000 (x.apply l) ∧ (x.apply l).Wf) ∧ Sm 20 90000 (y.apply l) ∧ (y.apply l).Wf := by
  obtain ⟨h1, h2⟩ := h.sumLe ha hb wa wb
  obtain ⟨⟨e1, e2⟩, e3, e4⟩ := h.ew (x, y) (by simp)
  have f1 := apply_wf h.wf x e2
  have f2 := apply_wf h.wf y e4
  simp only [sumL, sumR, List.map_cons, Tm.wtL] at h1 h2
  rw [wt_nodes f1] at h1
  rw [wt_nodes f2] at h2
  exact ⟨⟨⟨by omega, (apply_sm (by decide) h.tm x e1).nm⟩, f1⟩, ⟨by omega, (apply_sm (by decide) h.tm y e3).nm⟩, f2⟩
end
theorem zip_map_fst {α β γ : Type} (f : α → γ) : ∀ (x : List α) (y : List β), x.length = y.length → (x.zip y).map (fun e => f e.1) = x.map f
  | [], [], _ => rfl
  | [], _ :: _, h => by simp at h
  | _ :: _, [], h => by simp at h
  | a :: x, b :: y, h => by simp [zip_map_fst f x y (by simpa using h)]
theorem zip_map_snd {α β γ : Type} (f : β → γ) : ∀ (x : List α) (y : List β), x.length = y.length → (x.zip y).map (fun e => f e.2) = y.map f
  | [], [], _ => rfl
  | [], _ :: _, h => by simp at h
  | _ :: _, [], h => by simp at h
  | a :: x, b :: y, h => by simp [zip_map_snd f x y (by simpa using h)]
theorem map_zip_eq {α γ : Type} {f : α → γ} : ∀ {x y : List α}, x.length = y.length → (∀ e ∈ x.zip y, f e.1 = f e.2) → x.map f = y.map f
  | [], [], _, _ => rfl
  | [], _ :: _, h, _ => by simp at h
  | _ :: _, [], h, _ => by simp at h
  | a :: x, b :: y, h, he => by
    rw [List.map_cons, List.map_cons, he (a, b) (by simp), map_zip_eq (by simpa using h) fun e hm => he e (by simp [hm])]
end Go.Proofs.Ytfhgjhchjekbgaa
set_option linter.unusedVariables false
set_option linter.unusedSimpArgs false
namespace Go.Proofs.Ytfhgjhchjekbgaa
open Go

section
variable {a b : Tm} (ha : Sm 20 225 a) (hb : Sm 20 225 b) (wa : a.Wf) (wb : b.Wf)
include ha hb wa wb
/-- What is bound after a step, before its size is looked at. -/
structure Mid (l : List Bd) : Prop where
  mk ::
  len : l.length ≤ 451
  tm : ∀ x ∈ l, Sm 20 36000000 x.term
  wf : ∀ x ∈ l, x.term.Wf
  bn : ∀ x ∈ l, x.name.length ≤ 20
omit ha hb wa wb in
theorem Mid.bok {l : List Bd} (h : Mid l) : BOk l := ⟨by have := h.len; omega, fun x hx => (h.tm x hx).ok (by decide) (by decide), fun x hx => by have := h.bn x hx; omega⟩
omit wa wb in
theorem Inv.len {l : List Bd} {eqs : Eqs} (h : Inv a b l eqs) : l.length ≤ 450 := by
  have h1 := h.cnt
  have h2 := names_len a
  have h3 := names_len b
  have h4 := ha.nodes
  have h5 := hb.nodes
  rw [List.length_append] at h1
  omega
omit wa wb in
theorem Inv.mid0 {l : List Bd} {eqs : Eqs} (h : Inv a b l eqs) : Mid l := ⟨by have := h.len ha hb; omega, fun x hx => (h.tm x hx).mono (by decide), h.wf, h.bn⟩
omit ha hb wa wb in
theorem one_sm {v : Str} {t : Tm} {n : Nat} (ht : Sm 20 n t) : ∀ x ∈ [(⟨v, t⟩ : Bd)], Sm 20 n x.term := by
  intro x hx
  obtain rfl : x = ⟨v, t⟩ := by simpa using hx
  exact ht
omit ha hb wa wb in
theorem one_wf {v : Str} {t : Tm} (ht : t.Wf) : ∀ x ∈ [(⟨v, t⟩ : Bd)], x.term.Wf := by
  intro x hx
  obtain rfl : x = ⟨v, t⟩ := by simpa using hx
  exact ht
omit wa wb in
theorem Inv.bind {l : List Bd} {eqs : Eqs} (h : Inv a b l eqs) {v : Str} {t : Tm} (hv : v.length ≤ 20) (ht : Sm 20 90000 t) (wt : t.Wf) : Mid (comp l [⟨v, t⟩]) := by
  refine ⟨?_, fun x hx => ?_, fun x hx => ?_, fun x hx => ?_⟩
  · have := comp1_len l v t
    have := h.len ha hb
    omega
  · rcases comp1_mem hx with ⟨y, hy, rfl⟩ | rfl
    · refine (apply_sm (by decide) (one_sm ht) y.term (h.tm y hy).nm).mono ?_
      have := (h.tm y hy).nodes
      omega
    · exact ht.mono (by decide)
  · rcases comp1_mem hx with ⟨y, hy, rfl⟩ | rfl
    · exact apply_wf (one_wf wt) y.term (h.wf y hy)
    · exact wt
  · rcases comp1_mem hx with ⟨y, hy, rfl⟩ | rfl
    · exact h.bn y hy
    · exact hv
theorem Inv.mid {l l' : List Bd} {x y : Tm} {rest new : Eqs} (h : Inv a b l ((x, y) :: rest)) (hs : stepP l (x, y) = some (l', new)) : Mid l' := by
  obtain ⟨⟨hr, wr⟩, hs', ws⟩ := h.ends ha hb wa wb
  rcases pairP_some (l := l) (r := x.apply l) (s := y.apply l) hs with ⟨_, rfl, _⟩ | ⟨v, t, hvt, _, rfl, _⟩ | ⟨_, _, _, _, rfl, _⟩
  · exact h.mid0 ha hb
  · rcases hvt with ⟨_, rfl, rfl⟩ | ⟨_, rfl, rfl⟩
    · exact h.bind ha hb hr.nm.name hs' ws
    · exact h.bind ha hb hs'.nm.name hr wr
  · exact h.mid0 ha hb
omit ha hb wa wb in
theorem sum_cons (ω : Str → Nat) (l : List Bd) (e : Tm × Tm) (rest : Eqs) : sumL ω l (e :: rest) = (e.1.apply l).wt ω + sumL ω l rest ∧ sumR ω l (e :: rest) = (e.2.apply l).wt ω + sumR ω l rest := ⟨rfl, rfl⟩
omit ha hb wa wb in
theorem args_free {l : List Bd} {r : Tm} (h : ∀ n ∈ r.names, bound l n = none) : r.args.map (Tm.apply l) = r.args := by
  have : r.args.map (Tm.apply l) = r.args.map id := List.map_congr_left fun u hu => apply_free fun n hn => h n (names_arg hu hn)
  rwa [List.map_id] at this
omit ha hb wa wb in
theorem sum_zip (ω : Str → Nat) {l : List Bd} {r s : Tm} (rest : Eqs) (hl : r.args.length = s.args.length) (hr : ∀ n ∈ r.names, bound l n = none) (hs : ∀ n ∈ s.names, bound l n = none) :
    sumL ω l (r.args.zip s.args ++ rest) = Tm.wtL ω r.args + sumL ω l rest ∧ sumR ω l (r.args.zip s.args ++ rest) = Tm.wtL ω s.args + sumR ω l rest := by
  unfold sumL sumR
  rw [List.map_append, List.map_append, wtL_append, wtL_append, zip_map_fst (Tm.apply l) _ _ hl, zip_map_snd (Tm.apply l) _ _ hl, args_free hr, args_free hs]
  exact ⟨rfl, rfl⟩
theorem Inv.step {l l' : List Bd} {x y : Tm} {rest new : Eqs} (h : Inv a b l ((x, y) :: rest)) (hs : stepP l (x, y) = some (l', new)) (hl : large l' = false) :
    Inv a b l' (new ++ rest) ∧ mu a b l' (new ++ rest) < mu a b l ((x, y) :: rest) := by
  have hm := h.mid ha hb wa wb hs
  obtain ⟨⟨hr, wr⟩, hs', ws⟩ := h.ends ha hb wa wb
  have hen := h.en (x, y) (by simp)
  have nr : ∀ n ∈ (x.apply l).names, bound l n = none ∧ n ∈ a.names ++ b.names := fun n hn => ⟨h.idem.free hn, h.names (fun m hm => hen m (List.mem_append_left _ hm)) hn⟩
  have ns : ∀ n ∈ (y.apply l).names, bound l n = none ∧ n ∈ a.names ++ b.names := fun n hn => ⟨h.idem.free hn, h.names (fun m hm => hen m (List.mem_append_right _ hm)) hn⟩
  have ew : ∀ e ∈ rest, (e.1.Nm 20 ∧ e.1.Wf) ∧ e.2.Nm 20 ∧ e.2.Wf := fun e he => h.ew e (by simp [he])
  have en : ∀ e ∈ rest, ∀ n ∈ e.1.names ++ e.2.names, n ∈ a.names ++ b.names := fun e he => h.en e (by simp [he])
  have pr := wt_pos wr
  have ps := wt_pos ws
  rcases pairP_some (l := l) (r := x.apply l) (s := y.apply l) hs with ⟨he, rfl, rfl⟩ | ⟨v, t, hvt, hvn, rfl, rfl⟩ | ⟨k1, k2, hn, hlen, rfl, rfl⟩
  · refine ⟨⟨h.idem, h.tm, h.wf, h.bn, h.ln, h.cnt, ew, en, fun ω => ?_, fun ω => ?_, fun σ hσ => ?_⟩, ?_⟩
    · have := h.wl ω
      rw [(sum_cons ω l' (x, y) rest).1] at this
      simp only [List.nil_append]
      omega
    · have := h.wr ω
      rw [(sum_cons ω l' (x, y) rest).2] at this
      simp only [List.nil_append]
      omega
    · refine h.sol σ fun e hm => ?_
      rcases List.mem_cons.1 hm with rfl | hm
      · show Tm.apply σ (x.apply l') = _
        rw [he]
      · exact hσ e hm
    · unfold mu
      rw [(sum_cons w1 l' (x, y) rest).1, (sum_cons w1 l' (x, y) rest).2]
      simp only [List.nil_append]
      omega
  · -- a name is bound
    have hv : v ∈ a.names ++ b.names ∧ bound l v = none := by
      rcases hvt with ⟨k, rfl, rfl⟩ | ⟨k, rfl, rfl⟩
      · exact ⟨(nr _ (names_kind k)).2, (nr _ (names_kind k)).1⟩
      · exact ⟨(ns _ (names_kind k)).2, (ns _ (names_kind k)).1⟩
    have ht : ∀ n ∈ t.names, bound l n = none ∧ n ∈ a.names ++ b.names := by
      rcases hvt with ⟨k, rfl, rfl⟩ | ⟨k, rfl, rfl⟩
      · exact ns
      · exact nr
    have hf := free_comp (t := t) hv.1 hv.2
    have hi : Inv a b (comp l [⟨v, t⟩]) ([] ++ rest) := by
      refine ⟨h.idem.comp hvn fun n hn => (ht n hn).1, fun z hz => ⟨?_, (hm.tm z hz).nm⟩, hm.wf, hm.bn, fun z hz n hn => ?_, ?_, ew, en, fun ω => ?_, fun ω => ?_, fun σ hσ => ?_⟩
      · unfold large at hl
        rw [List.any_eq_false] at hl
        have := hl z hz
        simpa using this
      · rcases comp1_mem hz with ⟨w, hw, rfl⟩ | rfl
        · rcases apply_names w.term hn with ⟨h1, _⟩ | ⟨s, h1, u, h2, h3⟩
          · exact h.ln w hw n h1
          · rw [bound_one] at h2
            split at h2
            · cases h2
              exact (ht n h3).2
            · cases h2
        · exact (ht n hn).2
      · have := comp1_len l v t
        have := h.cnt
        omega
      · have h1 := h.wl (liftW ω [⟨v, t⟩])
        rw [(sum_cons _ l (x, y) rest).1] at h1
        have h2 : sumL ω (comp l [⟨v, t⟩]) rest = sumL (liftW ω [⟨v, t⟩]) l rest := wtL_comp ω l v t Prod.fst rest
        rw [comp_eq, wt_apply ω [⟨v, t⟩]]
        simp only [List.nil_append]
        omega
      · have h1 := h.wr (liftW ω [⟨v, t⟩])
        rw [(sum_cons _ l (x, y) rest).2] at h1
        have h2 : sumR ω (comp l [⟨v, t⟩]) rest = sumR (liftW ω [⟨v, t⟩]) l rest := wtL_comp ω l v t Prod.snd rest
        rw [comp_eq, wt_apply ω [⟨v, t⟩]]
        simp only [List.nil_append]
        omega
      · have h1 := h.sol (comp [⟨v, t⟩] σ) fun e hm => ?_
        · rw [comp_eq, comp_eq] at h1
          rw [comp_eq, comp_eq]
          exact h1
        · rw [comp_eq, comp_eq]
          rcases List.mem_cons.1 hm with rfl | hm
          · have e1 : (x.apply l).apply [⟨v, t⟩] = (y.apply l).apply [⟨v, t⟩] := by
              rcases hvt with ⟨k, rfl, rfl⟩ | ⟨k, rfl, rfl⟩
              · rw [apply_one_free hvn]
                exact Tm.apply_var (by simpa using k) (by rw [bound_one]; simp)
              · rw [apply_one_free hvn]
                exact (Tm.apply_var (by simpa using k) (by rw [bound_one]; simp)).symm
            show Tm.apply σ ((x.apply l).apply [⟨v, t⟩]) = Tm.apply σ ((y.apply l).apply [⟨v, t⟩])
            rw [e1]
          · have := hσ e hm
            rw [comp_eq, comp_eq] at this
            exact this
    refine ⟨hi, ?_⟩
    obtain ⟨s1, s2⟩ := hi.sumLe ha hb wa wb
    unfold mu
    omega
  · have hnr : ∀ n ∈ (x.apply l').names, bound l' n = none := fun n hn => (nr n hn).1
    have hns : ∀ n ∈ (y.apply l').names, bound l' n = none := fun n hn => (ns n hn).1
    have er : ∀ ω, (x.apply l').wt ω = 1 + Tm.wtL ω (x.apply l').args := fun ω => by rw [wt_eq, k1]; rfl
    have es : ∀ ω, (y.apply l').wt ω = 1 + Tm.wtL ω (y.apply l').args := fun ω => by rw [wt_eq, k2]; rfl
    refine ⟨⟨h.idem, h.tm, h.wf, h.bn, h.ln, h.cnt, fun e he => ?_, fun e he n hn => ?_, fun ω => ?_, fun ω => ?_, fun σ hσ => ?_⟩, ?_⟩
    · rcases List.mem_append.1 he with he | he
      · have := List.of_mem_zip he
        exact ⟨⟨hr.nm.args _ this.1, wr.args _ this.1⟩, hs'.nm.args _ this.2, ws.args _ this.2⟩
      · exact ew e he
    · rcases List.mem_append.1 he with he | he
      · have := List.of_mem_zip he
        rcases List.mem_append.1 hn with hn | hn
        · exact (nr n (names_arg this.1 hn)).2
        · exact (ns n (names_arg this.2 hn)).2
      · exact en e he n hn
    · have h1 := h.wl ω
      rw [(sum_cons _ l' (x, y) rest).1, er ω] at h1
      rw [(sum_zip ω rest hlen hnr hns).1]
      omega
    · have h1 := h.wr ω
      rw [(sum_cons _ l' (x, y) rest).2, es ω] at h1
      rw [(sum_zip ω rest hlen hnr hns).2]
      omega
    · refine h.sol σ fun e hm => ?_
      rcases List.mem_cons.1 hm with rfl | hm
      · show (x.apply l').apply σ = (y.apply l').apply σ
        have e1 : ((x.apply l').args).map (Tm.apply σ) = ((y.apply l').args).map (Tm.apply σ) := by
          refine map_zip_eq hlen fun p hp => ?_
          have h2 := hσ p (List.mem_append_left _ hp)
          have h3 := List.of_mem_zip hp
          rwa [apply_free fun n hn => hnr n (names_arg h3.1 hn), apply_free fun n hn => hns n (names_arg h3.2 hn)] at h2
        rw [Tm.apply_new (t := x.apply l') (.inl (by rw [k1]; rfl)), Tm.apply_new (t := y.apply l') (.inl (by rw [k2]; rfl)), e1, k1, k2, hn, wr.app k1, ws.app k2]
      · exact hσ e (List.mem_append_right _ hm)
    · unfold mu
      rw [(sum_cons w1 l' (x, y) rest).1, (sum_cons w1 l' (x, y) rest).2, (sum_zip w1 rest hlen hnr hns).1, (sum_zip w1 rest hlen hnr hns).2, er w1, es w1]
      omega
end

/-! ### A run -/

/-- What the steps come to, from some bindings and equations on. -/
inductive Run : List Bd → Eqs → Option (List Bd) → Prop where
  | done (l : List Bd) : Run l [] (some l)
  | fail {l : List Bd} {e : Tm × Tm} {rest : Eqs} (h : stepP l e = none) : Run l (e :: rest) none
  | big {l l' : List Bd} {e : Tm × Tm} {rest new : Eqs} (h : stepP l e = some (l', new)) (hl : large l' = true) : Run l (e :: rest) none
  | go {l l' : List Bd} {e : Tm × Tm} {rest new : Eqs} {r : Option (List Bd)} (h : stepP l e = some (l', new)) (hl : large l' = false) (hr : Run l' (new ++ rest) r) : Run l (e :: rest) r
section
variable {a b : Tm} (ha : Sm 20 225 a) (hb : Sm 20 225 b) (wa : a.Wf) (wb : b.Wf)
include ha hb wa wb
theorem run_ends : ∀ (n : Nat) (l : List Bd) (eqs : Eqs), Inv a b l eqs → mu a b l eqs < n → ∃ r, Run l eqs r := by
  intro n
  induction n with
  | zero => intro l eqs _ h; omega
  | succ n ih =>
    intro l eqs hi hn
    cases eqs with
    | nil => exact ⟨_, .done l⟩
    | cons e rest =>
      obtain ⟨x, y⟩ := e
      cases hs : stepP l (x, y) with
      | none => exact ⟨_, .fail hs⟩
      | some p =>
        obtain ⟨l', new⟩ := p
        cases hl : large l' with
        | true => exact ⟨_, .big hs hl⟩
        | false =>
          obtain ⟨h1, h2⟩ := hi.step ha hb wa wb hs hl
          obtain ⟨r, hr⟩ := ih l' (new ++ rest) h1 (by omega)
          exact ⟨r, .go hs hl hr⟩
/-- A run that ends well makes both terms equal. -/
theorem run_sound {l : List Bd} {eqs : Eqs} {r : Option (List Bd)} (h : Run l eqs r) : Inv a b l eqs → ∀ L, r = some L → Inv a b L [] ∧ a.apply L = b.apply L := by
  induction h with
  | done l =>
    intro hi L e
    cases e
    refine ⟨hi, ?_⟩
    have := hi.sol [] (by simp)
    rwa [apply_nil, apply_nil] at this
  | fail h => intro _ L e; cases e
  | big h hl => intro _ L e; cases e
  | go h hl hr ih => intro hi; exact ih (hi.step ha hb wa wb h hl).1
end

/-! ### Ground terms -/

/-- The equations of a pattern and a ground term that it matches. -/
structure Gr (θ l : List Bd) (eqs : Eqs) : Prop where
  mk ::
  bd : ∀ s u, bound l s = some u → bound θ s = some u
  gr : ∀ x ∈ l, x.term.names = []
  sz : ∀ x ∈ l, x.term.nodes ≤ 225
  eq : ∀ e ∈ eqs, e.1.apply θ = e.2 ∧ e.2.names = [] ∧ e.2.nodes ≤ 225 ∧ e.1.Wf
theorem ground_apply {t : Tm} (h : t.names = []) (l : List Bd) : t.apply l = t := apply_free fun n hn => by rw [h] at hn; cases hn
theorem ground_arg {t u : Tm} (h : t.names = []) (hu : u ∈ t.args) : u.names = [] := by
  rw [List.eq_nil_iff_forall_not_mem]
  intro s hs
  have := names_arg hu hs
  rw [h] at this
  cases this
theorem nodes_arg {t u : Tm} (hu : u ∈ t.args) : u.nodes ≤ t.nodes := by
  obtain ⟨i, hi⟩ := List.mem_iff_getElem?.1 hu
  have := nodesL_get hi
  rw [nodes_eq t]
  omega
theorem Gr.step {θ l : List Bd} {x y : Tm} {rest : Eqs} (h : Gr θ l ((x, y) :: rest)) (wl : ∀ z ∈ l, z.term.Wf) : ∃ l' new, stepP l (x, y) = some (l', new) ∧ Gr θ l' (new ++ rest) := by
  obtain ⟨h1, h2, h3, h4⟩ := h.eq (x, y) (by simp)
  have hrest : ∀ e ∈ rest, e.1.apply θ = e.2 ∧ e.2.names = [] ∧ e.2.nodes ≤ 225 ∧ e.1.Wf := fun e he => h.eq e (by simp [he])
  simp only at h1 h2 h3 h4
  have hw := apply_wf wl x h4
  have e1 : (x.apply l).apply θ = y := by
    rw [← comp_eq, ← h1]
    refine apply_congr x fun s hs => ?_
    rw [bound_comp]
    cases e : bound l s with
    | none => rfl
    | some u =>
      obtain ⟨z, hz, rfl, _⟩ := bound_mem e
      simp only
      rw [h.bd s _ e, ground_apply (h.gr z hz)]
  have e2 : y.apply l = y := ground_apply h2 l
  unfold stepP
  simp only [e2]
  generalize x.apply l = r at e1 hw
  have yk : (y.kind == 1) = false := by
    cases e : (y.kind == 1)
    · rfl
    · have := names_kind (t := y) (by simpa using e)
      rw [h2] at this
      cases this
  cases he : r.eqb y with
  | true => exact ⟨l, [], by unfold pairP; rw [he]; rfl, h.bd, h.gr, h.sz, hrest⟩
  | false =>
    have hne : r ≠ y := fun e => by rw [e, eqb_refl] at he; cases he
    cases hk : (r.kind == 1) with
    | true =>
      have hb : bound θ r.name = some y := by
        cases e : bound θ r.name with
        | none =>
          rw [Tm.apply_new (.inr e)] at e1
          have : y.kind = r.kind := by rw [← e1]; rfl
          rw [this, hk] at yk
          cases yk
        | some u => rw [← e1, Tm.apply_var hk e]
      refine ⟨comp l [⟨r.name, y⟩], [], by unfold pairP bindP; rw [he, hk, h2]; rfl, fun s u hu => ?_, fun z hz => ?_, fun z hz => ?_, hrest⟩
      · rw [bound_comp1] at hu
        cases e : bound l s with
        | none =>
          rw [e] at hu
          simp only at hu
          split at hu
          · rename_i h5
            cases hu
            have h5 : r.name = s := by simpa using h5
            rw [← h5]
            exact hb
          · cases hu
        | some w =>
          rw [e] at hu
          obtain ⟨z, hz, rfl, _⟩ := bound_mem e
          simp only [Option.some.injEq] at hu
          rw [ground_apply (h.gr z hz)] at hu
          rw [← hu]
          exact h.bd s _ e
      · rcases comp1_mem hz with ⟨w, hw, rfl⟩ | rfl
        · show (Tm.apply _ w.term).names = []
          rw [ground_apply (h.gr w hw)]
          exact h.gr w hw
        · exact h2
      · rcases comp1_mem hz with ⟨w, hw, rfl⟩ | rfl
        · show (Tm.apply _ w.term).nodes ≤ 225
          rw [ground_apply (h.gr w hw)]
          exact h.sz w hw
        · exact h3
    | false =>
      rw [Tm.apply_new (.inl hk)] at e1
      have k1 : y.kind = r.kind := by rw [← e1]; rfl
      have k2 : y.name = r.name := by rw [← e1]; rfl
      have k3 : y.args = r.args.map (Tm.apply θ) := by rw [← e1]; rfl
      have k4 : r.kind = 2 := by
        refine Classical.byContradiction fun h6 => hne ?_
        rw [← e1, hw.leaf h6]
        have := Tm.eta r
        rw [hw.leaf h6] at this
        exact this.symm
      have k5 : r.args.length = y.args.length := by rw [k3, List.length_map]
      refine ⟨l, r.args.zip y.args, ?_, h.bd, h.gr, h.sz, fun e hm => ?_⟩
      · unfold pairP
        rw [he, hk, yk, k1, k2, k4, k5]
        simp
      · rcases List.mem_append.1 hm with hm | hm
        · have hz := List.of_mem_zip hm
          refine ⟨?_, ground_arg h2 hz.2, Nat.le_trans (nodes_arg hz.2) h3, hw.args _ hz.1⟩
          rw [k3] at hm
          obtain ⟨i, hi⟩ := List.mem_iff_getElem?.1 hm
          rw [List.getElem?_zip_eq_some, List.getElem?_map, Option.map_eq_some_iff] at hi
          obtain ⟨h7, z, h8, h9⟩ := hi
          rw [h7] at h8
          cases h8
          exact h9
        · exact hrest e hm
theorem Gr.small {θ l : List Bd} {eqs : Eqs} (h : Gr θ l eqs) : large l = false := by
  unfold large
  rw [List.any_eq_false]
  intro x hx
  have := h.sz x hx
  simp
  omega
section
variable {a b : Tm} (ha : Sm 20 225 a) (hb : Sm 20 225 b) (wa : a.Wf) (wb : b.Wf)
include ha hb wa wb
theorem run_ground {θ l : List Bd} {eqs : Eqs} {r : Option (List Bd)} (h : Run l eqs r) : Inv a b l eqs → Gr θ l eqs → ∃ L, r = some L := by
  induction h with
  | done l => intro _ _; exact ⟨l, rfl⟩
  | fail h =>
    rename_i l e rest
    intro hi hg
    obtain ⟨l', new, h1, _⟩ := Gr.step (x := e.1) (y := e.2) hg hi.wf
    rw [h] at h1
    cases h1
  | big h hl =>
    rename_i l l1 e rest new1
    intro hi hg
    obtain ⟨l', new, h1, h2⟩ := Gr.step (x := e.1) (y := e.2) hg hi.wf
    rw [h] at h1
    cases h1
    rw [h2.small] at hl
    cases hl
  | go h hl hr ih =>
    rename_i l l1 e rest new1 r1
    intro hi hg
    obtain ⟨l', new, h1, h2⟩ := Gr.step (x := e.1) (y := e.2) hg hi.wf
    rw [h] at h1
    cases h1
    exact ih (hi.step ha hb wa wb h hl).1 h2
end
end Go.Proofs.Ytfhgjhchjekbgaa
set_option linter.unusedVariables false
set_option linter.unusedSimpArgs false
namespace Go.Proofs.Ytfhgjhchjekbgaa
open Go

theorem ok_slices_Index (l : List Str) (s : Str) (hl : l.length < 68719476735) : ∃ r : Int, decide (r ≥ (0 : Int)) = l.contains s ∧ C_slices_Index_string l s r := by
  refine w_slices_Index_string l s _ ?_
  refine LOOP.up1 l.length (fun k => (l.take k).contains s = false) (by omega) (by simp) ?_
  intro k hk hP N hN
  try dsimp only
  refine ⟨fun h => ?_, fun h => ?_⟩
  · obtain ⟨u, hu⟩ := get_k h
    refine ⟨u, geti hu, fun h2 => ?_, fun h2 => hN (lt_k h) ?_⟩
    · have e : l.contains s = true := by
        rw [List.contains_iff_mem]
        have : s = u := by simpa using h2
        subst this
        exact List.mem_of_getElem? hu
      rw [e]
      simp
    · rw [← take_snoc hu]
      simp only [List.contains_eq_any_beq, List.any_append, List.any_cons, List.any_nil, Bool.or_false] at hP ⊢
      rw [hP, h2]
      rfl
  · rw [take_all (ge_k h)] at hP
    rw [hP]
    decide
theorem ok_slices_Contains (l : List Str) (s : Str) (hl : l.length < 68719476735) : C_slices_Contains_string l s (l.contains s) := by
  refine via (w_slices_Contains_string l s (· = _) ?_)
  obtain ⟨r, h1, h2⟩ := ok_slices_Index l s hl
  exact ⟨r, h2, h1⟩

/-! ### The program's step -/

def tq (e : Tm × Tm) : T_impl_equation := .mk e.1 e.2
def outR : Option (List Bd × Eqs) → List Bd × List T_impl_equation × Bool
  | some (l, new) => (l, new.map tq, true)
  | none => ([], [], false)
theorem one_bok {v : Str} {t : Tm} (hv : v.length ≤ 20) (ht : Sm 20 90000 t) : BOk [(⟨v, t⟩ : Bd)] :=
  ⟨(by show (1 : Nat) < _; decide), fun x hx => (one_sm ht x hx).ok (by decide) (by decide), fun x hx => by
    obtain rfl : x = ⟨v, t⟩ := by simpa using hx
    show v.length < _
    omega⟩
theorem bindP_yes {l : List Bd} {v : Str} {t : Tm} (h : t.names.contains v = true) : bindP l v t = none := by unfold bindP; rw [h]; rfl
theorem bindP_no {l : List Bd} {v : Str} {t : Tm} (h : t.names.contains v = false) : bindP l v t = some (comp l [⟨v, t⟩], []) := by unfold bindP; rw [h]; rfl
theorem pairP_same {l : List Bd} {r s : Tm} (h : r.eqb s = true) : pairP l r s = some (l, []) := by unfold pairP; rw [h]; rfl
theorem pairP_left {l : List Bd} {r s : Tm} (h : r.eqb s = false) (hk : (r.kind == 1) = true) : pairP l r s = bindP l r.name s := by unfold pairP; rw [h, hk]; rfl
theorem pairP_right {l : List Bd} {r s : Tm} (h : r.eqb s = false) (hk : (r.kind == 1) = false) (hk2 : (s.kind == 1) = true) : pairP l r s = bindP l s.name r := by unfold pairP; rw [h, hk, hk2]; rfl
theorem pairP_rest {l : List Bd} {r s : Tm} (h : r.eqb s = false) (hk : (r.kind == 1) = false) (hk2 : (s.kind == 1) = false) : pairP l r s = if r.kind == 2 && s.kind == 2 && r.name == s.name && r.args.length == s.args.length then some (l, r.args.zip s.args) else none := by unfold pairP; rw [h, hk, hk2]; rfl
theorem bnot_t {a : Bool} (h : (!a) = true) : a = false := by simpa using h
theorem bnot_f {a : Bool} (h : (!a) = false) : a = true := by simpa using h
theorem bne_t {a b : Int} (h : (a != b) = true) : (a == b) = false := bnot_t h
theorem bne_f {a b : Int} (h : (a != b) = false) : (a == b) = true := bnot_f h
theorem zip_snoc {α β : Type} {x : List α} {y : List β} {k : Nat} {a : α} {b : β} (ha : x[k]? = some a) (hb : y[k]? = some b) : ((x.zip y).take k) ++ [(a, b)] = (x.zip y).take (k + 1) := take_snoc (by rw [List.getElem?_zip_eq_some]; exact ⟨ha, hb⟩)

theorem ok_impl_treat (q : T_impl_equation) (l : List Bd) (hl : BOk l) (hx : q.x.Ok) (hy : q.y.Ok) (hr : Sm 20 90000 (q.x.apply l)) (hs : Sm 20 90000 (q.y.apply l)) (hll : l.length ≤ 450) :
    C_impl_treat q l (outR (stepP l (q.x, q.y))) := by
  refine via (w_impl_treat q l (· = outR (stepP l (q.x, q.y))) ?_)
  have hro := hr.ok (by decide) (by decide)
  have hso := hs.ok (by decide) (by decide)
  have eS : stepP l (q.x, q.y) = pairP l (q.x.apply l) (q.y.apply l) := rfl
  refine ⟨_, ok_impl_ApplySubst l hl q.x hx, _, ok_impl_ApplySubst l hl q.y hy, _, ok_impl_EqualTerm _ _ hro, fun h => ?_, fun h => ?_⟩
  · rw [eS, pairP_same h]
    rfl
  · rw [eS]
    generalize q.x.apply l = r at *
    generalize q.y.apply l = s at *
    have bc : ∀ (v : Str) (t : Tm), v.length ≤ 20 → Sm 20 90000 t → ∃ r15 : List Str, C_impl_namesIn t r15 ∧ ∃ r17 : Bool, C_slices_Contains_string r15 v r17 ∧
        ((r17 = true → (([] : List Bd), ([] : List T_impl_equation), false) = outR (bindP l v t)) ∧ (r17 = false → ∃ r20 : List Bd, C_impl_ComposeSubst l [(Bd.mk v t)] r20 ∧ (r20, ([] : List T_impl_equation), true) = outR (bindP l v t))) := by
      intro v t hv ht
      have hto := ht.ok (by decide) (by decide)
      have hn := ht.nodes
      have hnl := names_len t
      refine ⟨_, ok_impl_namesIn t hto (by omega), _, ok_slices_Contains _ v (by omega), fun h => ?_, fun h => ⟨_, ok_impl_ComposeSubst l _ hl (one_bok hv ht) (by simp only [List.length_singleton]; omega), ?_⟩⟩
      · rw [bindP_yes h]
        rfl
      · rw [bindP_no h]
        rfl
    cases hk : (r.kind == 1) with
    | true =>
      refine ⟨fun t => t = (r, s), ?_, fun h1 => (by rw [bne_t h1] at hk; cases hk), fun _ => rfl⟩
      rintro t rfl
      refine ⟨fun _ => ?_, fun h2 => (by rw [hk] at h2; cases h2)⟩
      rw [pairP_left h hk]
      exact bc r.name s hr.nm.name hs
    | false =>
      cases hk2 : (s.kind == 1) with
      | true =>
        refine ⟨fun t => t = (s, r), ?_, fun h1 => ⟨fun _ => rfl, fun h2 => (by cases h2)⟩, fun h1 => absurd (bne_f h1) (by rw [hk]; decide)⟩
        rintro t rfl
        refine ⟨fun _ => ?_, fun h2 => (by rw [hk2] at h2; cases h2)⟩
        rw [pairP_right h hk hk2]
        exact bc s.name r hs.nm.name hr
      | false =>
        refine ⟨fun t => t = (r, s), ?_, fun h1 => ⟨fun h2 => (by cases h2), fun _ => rfl⟩, fun h1 => absurd (bne_f h1) (by rw [hk]; decide)⟩
        rintro t rfl
        refine ⟨fun h2 => (by rw [hk] at h2; cases h2), fun _ => ?_⟩
        rw [pairP_rest h hk hk2]
        refine ⟨fun h3 => ?_, fun h3 => ⟨fun h4 => ?_, fun h4 => ⟨fun h5 => ?_, fun h5 => ⟨fun h6 => ?_, fun h6 => ?_⟩⟩⟩⟩
        · have e := bne_t h3
          rw [e]
          rfl
        · have e := bne_t h4
          simp only at e
          rw [e]
          simp [outR]
        · have e := bnot_t h5
          simp only at e
          rw [e]
          simp [outR]
        · have e : (r.args.length == s.args.length) = false := by simpa using len_ne h6
          rw [e]
          simp [outR]
        · have e : r.args.length = s.args.length := len_eq h6
          have e3 := bne_f h3
          have e4 := bne_f h4
          have e5 := bnot_f h5
          simp only at e3 e4 e5
          have ez : (r.args.zip s.args).length = r.args.length := by rw [List.length_zip]; omega
          rw [if_pos (by rw [e3, e4, e5, e]; simp)]
          have hro2 := hro.len
          refine LOOP.up r.args.length (fun k => ((r.args.zip s.args).take k).map tq) (by omega) rfl ?_
          intro k hk N hN
          try dsimp only
          refine ⟨fun h => ?_, fun h => ?_⟩
          · obtain ⟨u, hu⟩ := get_k h
            obtain ⟨w, hw⟩ : ∃ w, s.args[k]? = some w := get_lt (by have := lt_k h; omega)
            refine ⟨u, geti hu, w, geti hw, bnd (by have := take_len (r.args.zip s.args) k; simp only [List.length_map, List.length_singleton]; omega) (by decide), hN (lt_k h) _ ?_⟩
            show _ ++ [tq (u, w)] = _
            rw [← zip_snoc hu hw, List.map_append]
            rfl
          · rw [take_all (by have := ge_k h; omega)]
            rfl

/-! ### The program's run -/

def uniR (a b : Tm) : Option (List Bd) → List Bd × Bool
  | some L => (restr L (sortN a.names ++ sortN b.names), true)
  | none => ([], false)
theorem large_get {l : List Bd} {k : Nat} {u : Bd} (hu : l[k]? = some u) (h : (l.take k).any (fun b => decide (400 < b.term.nodes)) = false) :
    (400 < u.term.nodes → large l = true) ∧ (¬ 400 < u.term.nodes → (l.take (k + 1)).any (fun b => decide (400 < b.term.nodes)) = false) := by
  refine ⟨fun h2 => ?_, fun h2 => ?_⟩
  · unfold large
    rw [List.any_eq_true]
    exact ⟨u, List.mem_of_getElem? hu, by simpa using h2⟩
  · rw [← take_snoc hu, List.any_append, h]
    simpa using h2
theorem nodes_le_apply {l : List Bd} (t : Tm) : t.Wf → t.nodes ≤ (t.apply l).nodes := by
  induction t using Tm.ind with | h t ih =>
  intro h
  have key : ∀ ts : List Tm, (∀ u ∈ ts, u.nodes ≤ (u.apply l).nodes) → Tm.nodesL ts ≤ Tm.nodesL (ts.map (Tm.apply l)) := by
    intro ts
    induction ts with
    | nil => intro _; simp [Tm.nodesL]
    | cons a ts ih2 =>
      intro h
      have h1 := h a (by simp)
      have h2 := ih2 fun u hu => h u (by simp [hu])
      simp only [List.map_cons, Tm.nodesL]
      omega
  cases hk : (t.kind == 1) with
  | true =>
    have : t.kind = 1 := by simpa using hk
    rw [nodes_eq t, h.leaf (by rw [this]; decide), nodes_eq]
    simp [Tm.nodesL]
  | false =>
    rw [Tm.apply_new (.inl hk), nodes_eq, nodes_eq (.mk _ _ _ _), Tm.mk_args]
    have := key t.args fun u hu => ih u hu (h.args u hu)
    omega
theorem len_sum {l : List Bd} : ∀ {eqs : Eqs}, (∀ e ∈ eqs, (e.1.apply l).Wf) → eqs.length ≤ sumL w1 l eqs
  | [], _ => Nat.zero_le _
  | e :: eqs, h => by
    have h1 := len_sum (l := l) (eqs := eqs) fun x hx => h x (by simp [hx])
    have h2 := wt_pos (h e (by simp))
    rw [(sum_cons w1 l e eqs).1, List.length_cons]
    omega
section
variable {a b : Tm} (ha : Sm 20 225 a) (hb : Sm 20 225 b) (wa : a.Wf) (wb : b.Wf)
include ha hb wa wb
theorem Inv.eqLen {l : List Bd} {eqs : Eqs} (h : Inv a b l eqs) : eqs.length ≤ 90000 :=
  Nat.le_trans (len_sum fun e he => apply_wf h.wf _ (h.ew e he).1.2) (h.sumLe ha hb wa wb).1
theorem Inv.oks {l : List Bd} {x y : Tm} {rest : Eqs} (h : Inv a b l ((x, y) :: rest)) : x.Ok ∧ y.Ok := by
  obtain ⟨⟨h1, _⟩, h3, _⟩ := h.ends ha hb wa wb
  obtain ⟨⟨e1, e2⟩, e3, e4⟩ := h.ew (x, y) (by simp)
  have n1 := nodes_le_apply (l := l) x e2
  have n2 := nodes_le_apply (l := l) y e4
  exact ⟨sm_ok (by decide) x (by have := h1.nodes; omega) e1, sm_ok (by decide) y (by have := h3.nodes; omega) e3⟩
theorem ok_impl_UnifyTerms {r : Option (List Bd)} (hrun : Run [] [(a, b)] r) : C_impl_UnifyTerms a b (uniR a b r) := by
  refine via (w_impl_UnifyTerms a b (· = uniR a b r) ?_)
  refine LOOP.by (fun s => ∃ eqs : Eqs, s.2 = eqs.map tq ∧ Inv a b s.1 eqs ∧ Run s.1 eqs r) (fun s => mu a b s.1 (s.2.map fun q => (q.x, q.y))) ⟨[(a, b)], rfl, inv_start ha hb wa wb, hrun⟩ ?_
  rintro ⟨l, qs⟩ ⟨eqs, hq, hi, hrun⟩ N hN
  simp only at hq hi hrun
  subst hq
  have hao := ha.ok (by decide) (by decide)
  have hbo := hb.ok (by decide) (by decide)
  have han := ha.nodes
  have hbn := hb.nodes
  refine ⟨fun h => ?_, fun h => ?_⟩
  · cases eqs with
    | nil => simp at h
    | cons e rest =>
      obtain ⟨x, y⟩ := e
      obtain ⟨⟨h1, _⟩, h2, _⟩ := hi.ends ha hb wa wb
      obtain ⟨o1, o2⟩ := hi.oks ha hb wa wb
      have hm := hi.mid0 ha hb
      have hll := hi.len ha hb
      refine ⟨tq (x, y), geti0 rfl, _, ok_impl_treat (tq (x, y)) l hm.bok o1 o2 h1 h2 hll, fun h3 => ?_, fun h3 => ?_⟩
      · cases hs : stepP l (x, y) with
        | none =>
          cases hrun with
          | fail _ => rfl
          | big h5 _ => rw [hs] at h5; cases h5
          | go h5 _ _ => rw [hs] at h5; cases h5
        | some p =>
          have e : stepP l ((tq (x, y)).x, (tq (x, y)).y) = some p := hs
          rw [e] at h3
          cases h3
      · cases hs : stepP l (x, y) with
        | none =>
          have e : stepP l ((tq (x, y)).x, (tq (x, y)).y) = none := hs
          rw [e] at h3
          cases h3
        | some p =>
          obtain ⟨l', new⟩ := p
          have e : stepP l ((tq (x, y)).x, (tq (x, y)).y) = some (l', new) := hs
          rw [e]
          have hm' := hi.mid ha hb wa wb hs
          show LOOP _ _
          refine LOOP.up1 l'.length (fun k => (l'.take k).any (fun b => decide (400 < b.term.nodes)) = false) (by have := hm'.len; omega) (by simp) ?_
          intro k hk hP N2 hN2
          try dsimp only
          refine ⟨fun h5 => ?_, fun h5 => ?_⟩
          · obtain ⟨u, hu⟩ := get_k h5
            have hsm := hm'.tm u (List.mem_of_getElem? hu)
            have hn := hsm.nodes
            obtain ⟨g1, g2⟩ := large_get hu hP
            refine ⟨u, geti hu, _, ok_impl_CountTerm u.term (hsm.ok (by decide) (by decide)) (by omega), fun h6 => ?_, fun h6 => hN2 (lt_k h5) (g2 ?_)⟩
            · have hL : large l' = true := g1 (by have := of_decide_eq_true h6; omega)
              cases hrun with
              | fail h7 => rw [hs] at h7; cases h7
              | big _ _ => rfl
              | go h7 h8 _ =>
                rw [hs] at h7
                cases h7
                rw [hL] at h8
                cases h8
            · have := of_decide_eq_false h6
              omega
          · have hL : large l' = false := by
              have h6 : l'.length ≤ k := ge_k h5
              rw [take_all h6] at hP
              exact hP
            obtain ⟨hi', hmu⟩ := hi.step ha hb wa wb hs hL
            have hlen := hi'.eqLen ha hb wa wb
            rw [List.length_append] at hlen
            have ed : List.drop (Int.toNat (1 : Int)) (List.take (((x, y) :: rest).map tq).length (((x, y) :: rest).map tq)) = rest.map tq := by
              rw [List.take_length]
              rfl
            have hrun' : Run l' (new ++ rest) r := by
              cases hrun with
              | fail h7 => rw [hs] at h7; cases h7
              | big h7 h8 =>
                rw [hs] at h7
                cases h7
                rw [hL] at h8
                cases h8
              | go h7 h8 h9 =>
                rw [hs] at h7
                cases h7
                exact h9
            have h1len : (1 : Int) ≤ (((((x, y) :: rest).map tq).length : Nat) : Int) := by
              rw [List.length_map, List.length_cons]
              omega
            refine ⟨⟨by decide, h1len, Int.le_refl _⟩, ?_, ?_⟩
            · rw [ed]
              exact bnd (by show (new.map tq).length + (rest.map tq).length ≤ _; rw [List.length_map, List.length_map]; omega) (by decide)
            · rw [ed]
              refine hN _ ⟨new ++ rest, by show new.map tq ++ rest.map tq = _; rw [List.map_append], hi', hrun'⟩ ?_
              have e1 : ((outR (some (l', new))).2.1 ++ rest.map tq).map (fun q => (q.x, q.y)) = new ++ rest := by
                show (new.map tq ++ rest.map tq).map (fun q => (q.x, q.y)) = new ++ rest
                rw [← List.map_append, List.map_map]
                exact List.map_id _
              have e2 : (((x, y) :: rest).map tq).map (fun q => (q.x, q.y)) = (x, y) :: rest := by
                rw [List.map_map]
                exact List.map_id _
              show mu a b l' (((outR (some (l', new))).2.1 ++ rest.map tq).map (fun q => (q.x, q.y))) < mu a b l ((((x, y) :: rest).map tq).map (fun q => (q.x, q.y)))
              rw [e1, e2]
              exact hmu
  · cases eqs with
    | cons e rest => simp at h
    | nil =>
      cases hrun
      have hm := hi.mid0 ha hb
      have n1 := names_len a
      have n2 := names_len b
      have s1 := sortN_len a.names
      have s2 := sortN_len b.names
      exact ⟨_, ok_impl_VarsOfTerm a hao (by omega), _, ok_impl_VarsOfTerm b hbo (by omega), bnd (by omega) (by decide), _, ok_impl_RestrictSubst _ _ hm.bok (by rw [List.length_append]; omega), rfl⟩
end
end Go.Proofs.Ytfhgjhchjekbgaa
set_option linter.unusedVariables false
set_option linter.unusedSimpArgs false
namespace Go.Proofs.Ytfhgjhchjekbgaa
open Go

/-- What is left of a number of nodes after a term. -/
def LeftR (t : Tm) (p r : Int) : Prop := -1 ≤ r ∧ (0 ≤ r → r = p - t.nodes) ∧ (r < 0 → p < t.nodes)
theorem ok_spec_l8Left (t : Tm) : ∀ p : Int, t.Ok → 0 ≤ p → p ≤ 1000000 → ∃ r : Int, LeftR t p r ∧ C_spec_l8Left t p r := by
  induction t using Tm.ind with | h t ih =>
  intro p ht h0 h1
  refine w_spec_l8Left t p _ ?_
  have hn := nodes_eq t
  have ew : IntKind.i64.wrap (p - 1) = p - 1 := i64_wrap (by omega) (by omega)
  show LOOP _ ((0 : Int), IntKind.i64.wrap (p - 1))
  rw [ew]
  refine LOOP.upP t.args.length (fun k x => -1 ≤ x ∧ (0 ≤ x → x = p - 1 - Tm.nodesL (t.args.take k)) ∧ (x < 0 → p - 1 < Tm.nodesL (t.args.take k))) (by have := ht.len; omega) ⟨by omega, by simp [Tm.nodesL], by simp [Tm.nodesL]⟩ ?_
  intro k hk x hx N hN
  try dsimp only
  refine ⟨fun h => ⟨fun h2 => ?_, fun h2 => ?_⟩, fun h => ?_⟩
  · obtain ⟨u, hu⟩ := get_k h
    have hx0 : 0 ≤ x := of_decide_eq_true h2
    have hx1 := hx.2.1 hx0
    have hsn := nodesL_snoc hu
    obtain ⟨r, ⟨r1, r2, r3⟩, hr⟩ := ih u (List.mem_of_getElem? hu) x (ht.get hu) hx0 (by omega)
    refine ⟨u, geti hu, r, hr, hN (lt_k h) r ⟨r1, fun h4 => ?_, fun h4 => ?_⟩⟩
    · have := r2 h4
      omega
    · have := r3 h4
      omega
  · have hx0 : x < 0 := by have := of_decide_eq_false h2; omega
    have := nodesL_take_le t.args k
    have := hx.2.2 hx0
    exact ⟨hx.1, fun h4 => by omega, fun _ => by omega⟩
  · rw [take_all (ge_k h)] at hx
    refine ⟨hx.1, fun h4 => ?_, fun h4 => ?_⟩
    · have := hx.2.1 h4
      omega
    · have := hx.2.2 h4
      omega
theorem ok_spec_l8Large (l : List Bd) (hl : BOk l) : C_spec_l8Large l (large l) := by
  refine via (w_spec_l8Large l (· = large l) ?_)
  refine LOOP.up1 l.length (fun k => (l.take k).any (fun b => decide (400 < b.term.nodes)) = false) (by have := hl.len; omega) (by simp) ?_
  intro k hk hP N hN
  try dsimp only
  refine ⟨fun h => ?_, fun h => ?_⟩
  · obtain ⟨u, hu⟩ := get_k h
    obtain ⟨r, ⟨r1, r2, r3⟩, hr⟩ := ok_spec_l8Left u.term 400 (hl.tm u (List.mem_of_getElem? hu)) (by decide) (by decide)
    obtain ⟨g1, g2⟩ := large_get hu hP
    refine ⟨u, geti hu, r, hr, fun h2 => ?_, fun h2 => hN (lt_k h) (g2 ?_)⟩
    · have := r3 (of_decide_eq_true h2)
      exact (g1 (by omega)).symm
    · have h3 : ¬ r < 0 := of_decide_eq_false h2
      have := r2 (by omega)
      omega
  · rw [take_all (ge_k h)] at hP
    exact hP.symm

def seq (eqs : Eqs) (l : List Bd) : T_spec_l8Equations := .mk (eqs.map Prod.fst) (eqs.map Prod.snd) l
/-- What the reference's step says, where it succeeds. -/
def StepR (l : List Bd) (e : Tm × Tm) (rest : Eqs) (r : Bool × T_spec_l8Equations) : Prop := match stepP l e with
  | some (l', new) => r = (true, seq (new ++ rest) l')
  | none => r.1 = false
def BindR (l : List Bd) (v : Str) (t : Tm) (rest : Eqs) (r : Bool × T_spec_l8Equations) : Prop := match bindP l v t with
  | some (l', new) => r = (true, seq (new ++ rest) l')
  | none => r.1 = false
theorem ok_spec_l8Bind (l : List Bd) (v : Str) (t : Tm) (rest : Eqs) (hl : BOk l) (hll : l.length ≤ 450) (hv : v.length ≤ 20) (ht : Sm 20 90000 t) : ∃ r, BindR l v t rest r ∧ C_spec_l8Bind (seq rest l) v t r := by
  refine w_spec_l8Bind (seq rest l) v t _ ?_
  have hto := ht.ok (by decide) (by decide)
  have hn := ht.nodes
  have hnl := names_len t
  have hsl := sortN_len t.names
  have hc : (sortN t.names).contains v = t.names.contains v := by
    rw [Bool.eq_iff_iff]
    simp [sortN_mem]
  obtain ⟨r, r1, r2, r3⟩ := ok_spec_IndexOf (sortN t.names) v (by omega)
  refine ⟨_, ok_spec_VarsOfTerm t hto (by omega), r, r3, fun h => ?_, fun h => ⟨_, ok_spec_ComposeSubst l _ hl (one_bok hv ht) (by simp only [List.length_singleton]; omega), ?_⟩⟩
  · rw [r1, hc] at h
    unfold BindR
    rw [bindP_yes h]
  · rw [r1, hc] at h
    unfold BindR
    rw [bindP_no h]
    rfl
section
variable {a b : Tm} (ha : Sm 20 225 a) (hb : Sm 20 225 b) (wa : a.Wf) (wb : b.Wf)
include ha hb wa wb
theorem ok_spec_l8Step {l : List Bd} {x y : Tm} {rest : Eqs} (hi : Inv a b l ((x, y) :: rest)) : ∃ r, StepR l (x, y) rest r ∧ C_spec_l8Step (seq ((x, y) :: rest) l) r := by
  refine w_spec_l8Step (seq ((x, y) :: rest) l) _ ?_
  obtain ⟨⟨hr, _⟩, hs, _⟩ := hi.ends ha hb wa wb
  obtain ⟨o1, o2⟩ := hi.oks ha hb wa wb
  have hm := (hi.mid0 ha hb).bok
  have hll := hi.len ha hb
  have hlen := hi.eqLen ha hb wa wb
  rw [List.length_cons] at hlen
  have hro := hr.ok (by decide) (by decide)
  have dL : List.drop (Int.toNat (1 : Int)) (List.take (List.length (T_spec_l8Equations.left_ (seq ((x, y) :: rest) l))) (T_spec_l8Equations.left_ (seq ((x, y) :: rest) l))) = rest.map Prod.fst := by
    rw [List.take_length]
    rfl
  have dR : List.drop (Int.toNat (1 : Int)) (List.take (List.length (T_spec_l8Equations.right_ (seq ((x, y) :: rest) l))) (T_spec_l8Equations.right_ (seq ((x, y) :: rest) l))) = rest.map Prod.snd := by
    rw [List.take_length]
    rfl
  have l1 : (1 : Int) ≤ (((T_spec_l8Equations.left_ (seq ((x, y) :: rest) l)).length : Nat) : Int) := by
    show (1 : Int) ≤ (((((x, y) :: rest).map Prod.fst).length : Nat) : Int)
    rw [List.length_map, List.length_cons]
    omega
  have l2 : (1 : Int) ≤ (((T_spec_l8Equations.right_ (seq ((x, y) :: rest) l)).length : Nat) : Int) := by
    show (1 : Int) ≤ (((((x, y) :: rest).map Prod.snd).length : Nat) : Int)
    rw [List.length_map, List.length_cons]
    omega
  have eS : StepR l (x, y) rest = fun r => match pairP l (x.apply l) (y.apply l) with
      | some (l', new) => r = (true, seq (new ++ rest) l')
      | none => r.1 = false := rfl
  unfold wp_spec_l8Step
  simp only [dL, dR]
  rw [eS]
  refine ⟨x, geti0 rfl, _, ok_spec_ApplySubst l hm x o1, y, geti0 rfl, _, ok_spec_ApplySubst l hm y o2, ⟨by decide, l1, Int.le_refl _⟩, ⟨by decide, l2, Int.le_refl _⟩, _, ok_spec_EqualTerm _ _ hro, fun h => ?_, fun h => ?_⟩
  · simp only [pairP_same h]
    rfl
  · generalize x.apply l = r at *
    generalize y.apply l = s at *
    refine ⟨fun hk => ?_, fun hk => ⟨fun hk2 => ?_, fun hk2 => ?_⟩⟩
    · obtain ⟨z, z1, z2⟩ := ok_spec_l8Bind l r.name s rest hm hll hr.nm.name hs
      refine ⟨z, z2, ?_⟩
      rw [pairP_left h hk]
      exact z1
    · obtain ⟨z, z1, z2⟩ := ok_spec_l8Bind l s.name r rest hm hll hs.nm.name hr
      refine ⟨z, z2, ?_⟩
      rw [pairP_right h hk hk2]
      exact z1
    · rw [pairP_rest h hk hk2]
      have q1 := nodesL_len r.args
      have q2 := nodesL_len s.args
      have q3 := nodes_eq r
      have q4 := nodes_eq s
      have q5 := hr.nodes
      have q6 := hs.nodes
      refine ⟨fun h3 => ?_, fun h3 => ⟨fun h4 => ?_, fun h4 => ⟨fun h5 => ?_, fun h5 => ⟨fun h6 => ?_, fun h6 => ⟨bnd (by rw [List.length_nil]; omega) (by decide), bnd (by simp only [List.nil_append, List.length_map]; omega) (by decide), bnd (by rw [List.length_nil]; omega) (by decide), bnd (by simp only [List.nil_append, List.length_map]; omega) (by decide), ?_⟩⟩⟩⟩⟩
      · rw [bne_t h3]
        rfl
      · rw [bne_t h4, Bool.and_false]
        rfl
      · rw [bnot_t h5, Bool.and_false]
        rfl
      · have e : (r.args.length == s.args.length) = false := by simpa using len_ne h6
        rw [e, Bool.and_false]
        rfl
      · have e : r.args.length = s.args.length := len_eq h6
        rw [if_pos (by rw [bne_f h3, bne_f h4, bnot_f h5, e]; simp)]
        show _ = (true, seq (r.args.zip s.args ++ rest) l)
        unfold seq
        rw [List.map_append, List.map_append, show (r.args.zip s.args).map Prod.fst = r.args from by have := zip_map_fst (id : Tm → Tm) _ _ e; simpa using this, show (r.args.zip s.args).map Prod.snd = s.args from by have := zip_map_snd (id : Tm → Tm) _ _ e; simpa using this]
        rfl
theorem ok_spec_UnifyTerms {r : Option (List Bd)} (hrun : Run [] [(a, b)] r) : C_spec_UnifyTerms a b (uniR a b r) := by
  refine via (w_spec_UnifyTerms a b (· = uniR a b r) ?_)
  refine LOOP.by (fun s => ∃ eqs : Eqs, s = seq eqs s.subst ∧ Inv a b s.subst eqs ∧ Run s.subst eqs r) (fun s => mu a b s.subst (s.left_.zip s.right_)) ⟨[(a, b)], rfl, inv_start ha hb wa wb, hrun⟩ ?_
  rintro s ⟨eqs, hq, hi, hrun⟩ N hN
  generalize s.subst = l at *
  subst hq
  have hao := ha.ok (by decide) (by decide)
  have hbo := hb.ok (by decide) (by decide)
  have han := ha.nodes
  have hbn := hb.nodes
  have ez : ∀ q : Eqs, (q.map Prod.fst).zip (q.map Prod.snd) = q := fun q => by
    induction q with
    | nil => rfl
    | cons x q ih => simp [ih]
  refine ⟨fun h => ?_, fun h => ?_⟩
  · cases eqs with
    | nil => simp [seq] at h
    | cons e rest =>
      obtain ⟨x, y⟩ := e
      obtain ⟨z, z1, z2⟩ := ok_spec_l8Step ha hb wa wb hi
      refine ⟨z, z2, fun h3 => ?_, fun h3 => ?_⟩
      · cases hs : stepP l (x, y) with
        | none =>
          cases hrun with
          | fail _ => rfl
          | big h5 _ => rw [hs] at h5; cases h5
          | go h5 _ _ => rw [hs] at h5; cases h5
        | some p =>
          unfold StepR at z1
          rw [hs] at z1
          simp only at z1
          rw [z1] at h3
          cases h3
      · cases hs : stepP l (x, y) with
        | none =>
          unfold StepR at z1
          rw [hs] at z1
          simp only at z1
          rw [z1] at h3
          cases h3
        | some p =>
          obtain ⟨l', new⟩ := p
          unfold StepR at z1
          rw [hs] at z1
          simp only at z1
          subst z1
          have hm' := hi.mid ha hb wa wb hs
          refine ⟨_, ok_spec_l8Large l' hm'.bok, fun hL => ?_, fun hL => ?_⟩
          · cases hrun with
            | fail h7 => rw [hs] at h7; cases h7
            | big _ _ => rfl
            | go h7 h8 _ =>
              rw [hs] at h7
              cases h7
              rw [hL] at h8
              cases h8
          · obtain ⟨hi', hmu⟩ := hi.step ha hb wa wb hs hL
            have hrun' : Run l' (new ++ rest) r := by
              cases hrun with
              | fail h7 => rw [hs] at h7; cases h7
              | big h7 h8 =>
                rw [hs] at h7
                cases h7
                rw [hL] at h8
                cases h8
              | go h7 h8 h9 =>
                rw [hs] at h7
                cases h7
                exact h9
            refine hN _ ⟨new ++ rest, rfl, hi', hrun'⟩ ?_
            show mu a b l' (((new ++ rest).map Prod.fst).zip ((new ++ rest).map Prod.snd)) < mu a b l ((((x, y) :: rest).map Prod.fst).zip (((x, y) :: rest).map Prod.snd))
            rw [ez, ez]
            exact hmu
  · cases eqs with
    | cons e rest => simp [seq] at h
    | nil =>
      cases hrun
      have hm := hi.mid0 ha hb
      have n1 := names_len a
      have n2 := names_len b
      have s1 := sortN_len a.names
      have s2 := sortN_len b.names
      exact ⟨_, ok_spec_VarsOfTerm a hao (by omega), _, ok_spec_VarsOfTerm b hbo (by omega), bnd (by omega) (by decide), _, ok_spec_RestrictSubst _ _ hm.bok (by rw [List.length_append]; omega), rfl⟩
end
end Go.Proofs.Ytfhgjhchjekbgaa
set_option linter.unusedVariables false
set_option linter.unusedSimpArgs false
namespace Go.Proofs.Ytfhgjhchjekbgaa
open Go

/-- Two substitutions that make a term the same ground term agree on its names. -/
theorem ground_bound {A B : List Bd} (t : Tm) : t.Wf → t.apply A = t.apply B → (t.apply A).names = [] → ∀ s ∈ t.names, bound A s = bound B s := by
  induction t using Tm.ind with | h t ih =>
  intro hw he hg s hs
  rw [names_eq, List.mem_append] at hs
  cases hk : (t.kind == 1) with
  | true =>
    have hk' : t.kind = 1 := by simpa using hk
    rw [hw.leaf (by rw [hk']; decide)] at hs
    have e : s = t.name := by
      rcases hs with hs | hs
      · rw [if_pos hk] at hs
        exact List.mem_singleton.1 hs
      · cases hs
    subst e
    have some : ∀ C : List Bd, (t.apply C).names = [] → ∃ u, bound C t.name = some u ∧ t.apply C = u := by
      intro C hC
      cases hb : bound C t.name with
      | some u => exact ⟨u, rfl, Tm.apply_var hk hb⟩
      | none =>
        rw [Tm.apply_new (.inr hb)] at hC
        have := names_kind (t := .mk t.kind t.n t.name (t.args.map (Tm.apply C))) hk'
        rw [hC] at this
        cases this
    obtain ⟨u, h1, h2⟩ := some A hg
    obtain ⟨w, h3, h4⟩ := some B (by rw [← he]; exact hg)
    rw [h1, h3, ← h2, ← h4, he]
  | false =>
    rw [if_neg (by rw [hk]; decide)] at hs
    rcases hs with hs | hs
    · cases hs
    · obtain ⟨u, hu, hs⟩ := mem_namesL hs
      rw [Tm.apply_new (.inl hk)] at he hg
      rw [Tm.apply_new (.inl hk)] at he
      have ha : t.args.map (Tm.apply A) = t.args.map (Tm.apply B) := by
        simp only [Tm.mk.injEq] at he
        exact he.2.2.2
      refine ih u hu (hw.args u hu) (List.map_inj_left.1 ha u hu) ?_ s hs
      exact ground_arg hg (by rw [Tm.mk_args]; exact List.mem_map.2 ⟨u, hu, rfl⟩)
theorem restr_congr {l l' : List Bd} {ns : List Str} (h : ∀ s ∈ ns, bound l s = bound l' s) : restr l ns = restr l' ns := by
  unfold restr
  have key : ∀ ms : List Str, (∀ s ∈ ms, bound l s = bound l' s) → (ms.filterMap fun s => (bound l s).map fun t => (⟨s, t⟩ : Bd)) = ms.filterMap fun s => (bound l' s).map fun t => (⟨s, t⟩ : Bd) := by
    intro ms
    induction ms with
    | nil => intro _; rfl
    | cons m ms ih =>
      intro h
      rw [List.filterMap_cons, List.filterMap_cons, h m (by simp), ih fun s hs => h s (by simp [hs])]
  exact key _ fun s hs => h s ((sortN_mem s ns).1 hs)
section
variable {a b : Tm} (ha : Sm 20 225 a) (hb : Sm 20 225 b) (wa : a.Wf) (wb : b.Wf)
include ha hb wa wb
theorem run_start : ∃ r, Run [] [(a, b)] r := run_ends ha hb wa wb _ _ _ (inv_start ha hb wa wb) (Nat.lt_succ_self _)
theorem uni_bok {r : Option (List Bd)} (h : Run [] [(a, b)] r) : BOk (uniR a b r).1 := by
  cases r with
  | none => exact bok_nil
  | some L =>
    obtain ⟨hi, _⟩ := run_sound ha hb wa wb h (inv_start ha hb wa wb) L rfl
    have n1 := names_len a
    have n2 := names_len b
    have s1 := sortN_len a.names
    have s2 := sortN_len b.names
    have m1 := ha.nodes
    have m2 := hb.nodes
    exact restr_bok (hi.mid0 ha hb).bok (by rw [List.length_append]; omega)
theorem uni_sound {r : Option (List Bd)} (h : Run [] [(a, b)] r) (h2 : (uniR a b r).2 = true) : a.apply (uniR a b r).1 = b.apply (uniR a b r).1 ∧ (a.apply (uniR a b r).1).Ok ∧ (b.apply (uniR a b r).1).Ok := by
  cases r with
  | none => cases h2
  | some L =>
    obtain ⟨hi, he⟩ := run_sound ha hb wa wb h (inv_start ha hb wa wb) L rfl
    have e1 : a.apply (restr L (sortN a.names ++ sortN b.names)) = a.apply L := apply_congr a fun s hs => by rw [bound_restr, if_pos (List.mem_append_left _ ((sortN_mem s _).2 hs))]
    have e2 : b.apply (restr L (sortN a.names ++ sortN b.names)) = b.apply L := apply_congr b fun s hs => by rw [bound_restr, if_pos (List.mem_append_right _ ((sortN_mem s _).2 hs))]
    have m1 := ha.nodes
    have m2 := hb.nodes
    show a.apply (restr L (sortN a.names ++ sortN b.names)) = b.apply (restr L (sortN a.names ++ sortN b.names)) ∧ (a.apply (restr L (sortN a.names ++ sortN b.names))).Ok ∧ (b.apply (restr L (sortN a.names ++ sortN b.names))).Ok
    rw [e1, e2]
    exact ⟨he, ((apply_sm (by decide) hi.tm a ha.nm).mono (Nat.mul_le_mul_right 400 m1)).ok (by decide) (by decide), ((apply_sm (by decide) hi.tm b hb.nm).mono (Nat.mul_le_mul_right 400 m2)).ok (by decide) (by decide)⟩
theorem uni_match {r : Option (List Bd)} (h : Run [] [(a, b)] r) (hg : b.names = []) (hm : (a.mt b []).2 = true) : uniR a b r = matchR a b := by
  have hg0 : Gr (restr (a.mt b []).1 (sortN a.names)) [] [(a, b)] := by
    refine ⟨fun s u h => (by cases h), by simp, by simp, fun e he => ?_⟩
    obtain rfl : e = (a, b) := by simpa using he
    exact ⟨match_eq hm, hg, hb.nodes, wa⟩
  obtain ⟨L, rfl⟩ := run_ground ha hb wa wb h (inv_start ha hb wa wb) hg0
  obtain ⟨hi, he⟩ := run_sound ha hb wa wb h (inv_start ha hb wa wb) L rfl
  rw [ground_apply hg] at he
  have e1 := match_eq hm
  have hbd := ground_bound a wa (he.trans e1.symm) (by rw [he]; exact hg)
  have e2 : matchR a b = (restr (a.mt b []).1 (sortN a.names), true) := by
    unfold matchR
    rw [hm]
    rfl
  rw [e2]
  show (restr L (sortN a.names ++ sortN b.names), true) = _
  rw [hg]
  show (restr L (sortN a.names ++ []), true) = _
  rw [List.append_nil, restr_congr (l' := (a.mt b []).1) fun s hs => ?_]
  have := hbd s ((sortN_mem s _).1 hs)
  rwa [bound_restr, if_pos hs] at this
end
theorem law_FnUnified (xs : List Int) : C_laws_FnUnified xs true := by
  refine via (w_laws_FnUnified xs (· = true) ?_)
  refine ⟨_, ok_big xs, fun _ => rfl, fun h => ?_⟩
  have hlen : xs.length ≤ 1048576 := by
    have := of_decide_eq_false h
    omega
  obtain ⟨ab, ⟨⟨ha, hb⟩, wa, wb⟩, hab⟩ := dr_DrawUnifyTerms xs hlen
  obtain ⟨pt, ⟨⟨hp0, ht0⟩, wp, wt⟩, hpt⟩ := dr_DrawMatchTerm xs hlen
  have hp : Sm 20 225 pt.1 := (hp0.mono (by decide)).wide (by decide)
  have ht : Sm 20 225 pt.2 := ht0.wide (by decide)
  have hao := ha.ok (by decide) (by decide)
  have hbo := hb.ok (by decide) (by decide)
  have hpo := hp.ok (by decide) (by decide)
  have hto := ht.ok (by decide) (by decide)
  have hps : pt.1.size < 68719476735 := by have := hp.size; omega
  have htn := ht.nodes
  obtain ⟨r, hr⟩ := run_start ha hb wa wb
  obtain ⟨q, hq⟩ := run_start hp ht wp wt
  have hub := uni_bok ha hb wa wb hr
  have tail : ∃ r22 : Tm × Tm, C_spec_DrawMatchTerm xs r22 ∧ ∃ r24 : Bool, C_spec_IsGround r22.2 r24 ∧ ((!r24) = true → true = true) ∧ ((!r24) = false → ∃ r27 : Bool, C_spec_IsInstance r22.2 r22.1 r27 ∧ ((!r27) = true → true = true) ∧ ((!r27) = false → ∃ r30 : (List Bd) × Bool, C_impl_UnifyTerms r22.1 r22.2 r30 ∧ ∃ r32 : (List Bd) × Bool, C_spec_MatchTerm r22.1 r22.2 r32 ∧ (r30.2 = true → ∃ r35 : Bool, C_laws_sameBinds r30.1 r32.1 r35 ∧ r35 = true) ∧ (r30.2 = false → false = true))) := by
    refine ⟨pt, hpt, _, ok_spec_IsGround pt.2 hto (by omega), fun _ => rfl, fun h1 => ⟨_, ok_spec_IsInstance hpo hto hps, fun _ => rfl, fun h2 => ⟨_, ok_impl_UnifyTerms hp ht wp wt hq, _, ok_spec_MatchTerm hpo hto hps, ?_⟩⟩⟩
    have hg : pt.2.names = [] := by
      have := bnot_f h1
      simpa using this
    have hm := bnot_f h2
    have e := uni_match hp ht wp wt hq hg hm
    have hb2 := uni_bok hp ht wp wt hq
    rw [e] at hb2 ⊢
    refine ⟨fun _ => ⟨true, ok_sameBinds _ hb2, rfl⟩, fun h3 => ?_⟩
    unfold matchR at h3
    rw [hm] at h3
    cases h3
  refine ⟨ab, hab, _, ok_impl_UnifyTerms ha hb wa wb hr, _, ok_spec_UnifyTerms ha hb wa wb hr, fun h1 => ?_, fun _ => ⟨true, ok_sameBinds _ hub, fun h1 => ?_, fun _ => ⟨fun h1 => ?_, fun _ => tail⟩⟩⟩
  · simp at h1
  · cases h1
  · obtain ⟨e, o1, o2⟩ := uni_sound ha hb wa wb hr h1
    refine ⟨_, ok_impl_ApplySubst _ hub _ hao, _, ok_impl_ApplySubst _ hub _ hbo, _, ok_spec_EqualTerm _ _ o1, fun h2 => ?_, fun _ => tail⟩
    rw [e, eqb_refl] at h2
    cases h2
end Go.Proofs.Ytfhgjhchjekbgaa
