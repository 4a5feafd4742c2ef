/-
  slices.Grow at a row of the call's own without elements, slices.Concat.
-/
import Derived.Test.YtfhgjhchjekbgaaGC
import Derived.Test.YtfhgjhchjekbgaaSH
import Derived.Shelf.Spec.SlicesGrow
import Derived.KernelRfl
set_option linter.unusedVariables false
set_option linter.unusedSimpArgs false
namespace Go.Proofs.Ytfhgjhchjekbgaa
open Go

theorem ok_Grow_of {P : Program} {f T : FuncId} {sz bytes : Nat} (hsz : 0 < sz) (hfn : FnOK P f)
    (hroom : ∀ (base : Option Addr) (l c n : Nat) (w : World), l ≤ c → c ≤ 9223372036854775807 → n ≤ 9223372036854775807 → l + n ≤ c → Calls P f #[.slice base l c, .int .i64 n] w fun e w' => e = .returned (.slice base l c) ∧ w' = w)
    (hgrow : ∀ (base : Option Addr) (l c n : Nat) (cs : List Value) (w : World), l ≤ c → c < l + n → (l + n) * bytes ≤ 140737488355328 → l + n ≤ 4611686018427387904 → cs.length = c * sz → (base = none → c = 0) → (∀ a, base = some a → ∀ j v, cs[j]? = some v → w.cell? (a.add j) = some v) →
      Calls P f #[.slice base l c, .int .i64 n] w fun e w' => ∃ (G : Nat) (zs : Array Value), e = .returned (.slice (some ⟨w.heap.size, 0, none⟩) l G) ∧ G ≤ maxLen ∧ zs.size = G * sz ∧ w' = w.drew.alloc (.cells zs T))
    (n : Nat) (hn : n * bytes ≤ 140737488355328) (hn2 : n ≤ 4611686018427387904) : Ev P f [.l (.ow sz []), .l (.fz (.int .i64 n))] (.one (.l (.ow sz []))) [] := by
  refine ⟨hfn, fun K w vs bs hk hr hnd => ?_⟩
  obtain ⟨v, rfl, ht⟩ : ∃ v, vs = #[v, .int .i64 n] ∧ Tip K w v 0 sz bs := by
    generalize hvs : vs.toList = us at hr
    cases hr with
    | cons h1 h2 =>
      cases h2 with
      | cons h3 h4 =>
        cases h4
        cases h1 with
        | l h1 =>
          cases h3 with
          | l h3 =>
            cases h3 with
            | fz h3 =>
              cases h3
              cases h1 with
              | ow _ ht _ =>
                refine ⟨_, ?_, by simpa using ht⟩
                cases vs
                simp at hvs
                simp [hvs]
  have fresh : ∀ {w' : World} (G : Nat) (zs : Array Value), G ≤ maxLen → zs.size = G * sz → w' = w.drew.alloc (.cells zs T) → ∃ (v : Value) (K' : Nat → Nat) (br bo : List Nat), Ending.returned (.slice (some ⟨w.heap.size, 0, none⟩) 0 G) = .returned v ∧ Keep (· ∈ bs) w w' ∧ KOK K' w' ∧ Ext K K' w w' ∧ (∀ b, b < w.heap.size → b ∉ bs → K' b = K b) ∧
      RepR K' w' v (.one (.l (.ow sz []))) br ∧ RepOs K' w' [] [] bo ∧ (br ++ bo).Nodup ∧ ∀ b ∈ br ++ bo, b ∈ bs ∨ w.heap.size ≤ b := by
    intro w' G zs hG hzs hw
    have e0 : w.drew.heap = w.heap := rfl
    have hold : ∀ b, b < w.heap.size → w'.heap[b]? = w.heap[b]? := fun b hb => by rw [hw]; exact (Keep.alloc (fun _ => False) w.drew _).block b hb (by simp)
    have hnew : w'.heap[w.heap.size]? = some (.cells zs T) := by rw [hw]; exact heap_alloc_new w.drew _
    refine ⟨_, K, [w.heap.size], [], rfl, ?_, ?_, ⟨fun _ => Nat.le_refl _, fun b o ho => cell_of_heap (hold b (hk.lt (by omega)))⟩, fun _ _ _ => rfl, ?_, .nil, by simp, by simp⟩
    · rw [hw]
      exact (Keep.drew _ w).trans (Keep.alloc _ _ _) (fun b _ h => h)
    · intro b hb
      obtain ⟨cs, e, fr, h1, h2⟩ := hk b hb
      exact ⟨cs, e, fr, by rw [hold b (hk.lt hb)]; exact h1, h2⟩
    · exact .one (.l (.ow (.slice0 _ _) (.row w.heap.size 0 G sz zs T hnew (Nat.zero_le _) hG hzs hsz (by rw [Nat.zero_mul]; exact hk.zero (Nat.le_refl _))) (by simp)))
  have same : ∃ (v' : Value) (K' : Nat → Nat) (br bo : List Nat), Ending.returned v = .returned v' ∧ Keep (· ∈ bs) w w ∧ KOK K' w ∧ Ext K K' w w ∧ (∀ b, b < w.heap.size → b ∉ bs → K' b = K b) ∧
      RepR K' w v' (.one (.l (.ow sz []))) br ∧ RepOs K' w [] [] bo ∧ (br ++ bo).Nodup ∧ ∀ b ∈ br ++ bo, b ∈ bs ∨ w.heap.size ≤ b := by
    refine ⟨v, K, bs, [], rfl, Keep.refl _ _, hk, Ext.refl _ _, fun _ _ _ => rfl, .one (.l (.ow ?_ (by simpa using ht) (by simp))), .nil, by simpa using hnd, fun b hb => .inl (by simpa using hb)⟩
    cases ht with
    | nil => exact .slice0 _ _
    | row => exact .slice0 _ _
  cases ht with
  | nil =>
    rcases Nat.eq_zero_or_pos n with h0 | h0
    · subst h0
      refine (hroom none 0 0 0 w (by decide) (by decide) (by decide) (by decide)).mono ?_
      rintro e w' ⟨rfl, rfl⟩
      exact same
    · refine (hgrow none 0 0 n [] w (by decide) (by omega) (by simpa using hn) (by omega) (by simp) (fun _ => rfl) (by simp)).mono ?_
      rintro e w' ⟨G, zs, rfl, h1, h2, h3⟩
      exact fresh G zs h1 h2 h3
  | row b _ cap _ cur e hg h1 h2 h3 h4 h5 =>
    have hcm : cap ≤ 9223372036854775807 := by unfold maxLen at h2; omega
    by_cases hc : n ≤ cap
    · refine (hroom (some ⟨b, 0, none⟩) 0 cap n w (by omega) hcm (by omega) (by omega)).mono ?_
      rintro e w' ⟨rfl, rfl⟩
      exact same
    · refine (hgrow (some ⟨b, 0, none⟩) 0 cap n cur.toList w (by omega) (by omega) (by simpa using hn) (by omega) (by simpa using h3) (by simp) ?_).mono ?_
      · rintro a ha j u hj
        cases ha
        have hadd : (⟨b, 0, none⟩ : Addr).add j = ⟨b, j, none⟩ := by
          unfold Addr.add
          split
          · rename_i e
            rw [e]
          · simp
        rw [hadd]
        simp only [World.cell?, hg, Option.isSome_none, Bool.false_eq_true, if_false]
        simpa using hj
      · rintro e w' ⟨G, zs, rfl, h1, h2, h3⟩
        exact fresh G zs h1 h2 h3

theorem bind_info : (match Try.prog.info? 64 with
    | some i => (match i.zero with
      | some z => decide (i.size = 5) && decide (i.bytes = 72) && decide (z.cells.size = 5)
      | none => false)
    | none => false) = true := by kernel_rfl
theorem ok_GrowBind (n : Nat) (hn : n * 72 ≤ 140737488355328) : C_slices_Grow_Bind [] n [] := by
  have hi := bind_info
  split at hi
  case h_2 => cases hi
  rename_i i hi1
  split at hi
  case h_2 => cases hi
  rename_i z hz
  simp only [Bool.and_eq_true, decide_eq_true_eq] at hi
  obtain ⟨⟨h1, h2⟩, h3⟩ := hi
  refine ok_Grow_of (T := 64) (sz := 5) (bytes := 72) (by decide) ⟨_, Try.func75, by decide, rfl⟩ (fun base l c n w a1 a2 a3 a4 => Any8.slices_Grow_room Try.growBind base l c n w a1 a2 a3 a4) ?_ n hn (by omega)
  intro base l c n cs w a1 a2 a3 a4 a5 a6 a7
  refine (Any8.slices_Grow_grow Try.growBind i z hi1 hz (by omega) base l c n cs w a1 a2 (by rw [h2]; exact a3) a4 (by rw [h1]; exact a5) a6 a7).mono ?_
  rintro e w' ⟨rfl, rfl⟩
  refine ⟨_, _, rfl, grownCap_le_maxLen w (l + n) c _ (by unfold maxLen; omega), ?_, rfl⟩
  simp only [Array.size_append, size_zeroCells, h3, List.size_toArray, a5]
  have := grownCap_ge w (l + n) c 64
  generalize hG : grownCap w (l + n) c 64 = G at this
  have e : grownCap w (l + n) c (Try.growBind_ren.t 25) = G := hG
  rw [e]
  omega

end Go.Proofs.Ytfhgjhchjekbgaa
