/-
  The program's sorted names: the contract.
-/
import Derived.Test.YtfhgjhchjekbgaaSN
set_option linter.unusedVariables false
set_option linter.unusedSimpArgs false
namespace Go.Proofs.Ytfhgjhchjekbgaa
open Go

theorem sort_calls (D : Nat) {K : Nat → Nat} {w : World} {v : Value} {l : List Str} (hl : l.length < 68719476735) (h : Rep K w v (.slice (e_str l))) :
    (v.ownBlock = none ∧ CallsIn (Fence.list snFence (some D)) 67 Try.prog 50 #[v] w (fun e w' => e = .returned (.slice none 0 0) ∧ w' = w) ∧ l = []) ∨
    CallsIn (Fence.list snFence (some D)) 67 Try.prog 50 #[v] w (Left w l) := by
  have hlen : (e_str l).length = l.length := enc_len (e := e_str) l
  generalize he : e_str l = xs at h
  cases h with
  | slice0 a cap =>
    have hl0 : l = [] := List.eq_nil_of_length_eq_zero (by rw [he] at hlen; simpa using hlen.symm)
    cases a with
    | none => exact .inl ⟨rfl, sn_nilIn D 0 cap w, hl0⟩
    | some a =>
      subst hl0
      exact .inr (sn_zeroIn D a cap w)
  | slice b off len cap sz xs f h0 hlx hp hK hs hc h1 hr =>
    subst he
    rw [hlen] at hlx
    have get : ∀ i, i < l.length → (e_str l)[i]? = some [.str (l[i]?.getD [])] := fun i hi => by
      obtain ⟨u, hu⟩ := get_lt hi
      rw [hu]
      exact enc_get (e := e_str) hu
    have hsz : sz = 1 := (hs 0 _ (get 0 (by omega))).symm
    subst hsz
    have cell : ∀ j, j < l.length → w.cell? ⟨b, off + j, none⟩ = some (.string ⟨(l[j]?.getD []).toArray⟩) := fun j hj => by
      have h2 := hc j _ 0 _ (get j hj) rfl
      have h3 := hr j _ 0 _ (get j hj) rfl
      rw [show off + j * 1 + 0 = off + j by omega] at h2
      rw [h2]
      generalize f j 0 = v at h3
      cases h3
      rfl
    refine .inr ?_
    have h4 := sn_anyIn D b off len cap (l.map fun s => ⟨s.toArray⟩) w (by simp; omega) (by omega) (fun j hj => by
      rw [List.length_map] at hj
      rw [cell j hj]
      obtain ⟨u, hu⟩ := get_lt hj
      rw [List.getD, List.getElem?_map, hu]
      rfl)
    have e2 : (((l.map fun s => (⟨s.toArray⟩ : ByteArray)).take len).map (·.data.toList)) = l := by
      rw [List.take_of_length_le (by simp; omega), List.map_map]
      exact (List.map_congr_left (g := id) fun x _ => rfl).trans (List.map_id l)
    rw [e2] at h4
    exact h4
theorem left_ev {K : Nat → Nat} {w w' : World} {l : List Str} {e : Ending} (hk : KOK K w) (h : Left w l e w') : ∃ (v : Value) (K' : Nat → Nat) (br bo : List Nat), e = .returned v ∧ Keep (· ∈ ([] : List Nat)) w w' ∧ KOK K' w' ∧ Ext K K' w w' ∧ (∀ b, b < w.heap.size → b ∉ ([] : List Nat) → K' b = K b) ∧
      RepR K' w' v (.one (.l (.ow 1 (e_str (sortN l))))) br ∧ RepOs K' w' [] [] bo ∧ (br ++ bo).Nodup ∧ ∀ b ∈ br ++ bo, b ∈ ([] : List Nat) ∨ w.heap.size ≤ b := by
  obtain ⟨g, cap, rfl, hown, hb⟩ := h
  rw [compact_merge] at hown ⊢
  generalize sortN l = s at hown
  rcases hown.2 with ⟨h0, _⟩ | ⟨g', cap', cur, hv, hbase, hg, h1, h2, h3, h4⟩
  · cases h0
  cases hv
  have hgK : K g = 0 := hk.zero hbase
  have hcells : ∀ i, i < s.length → w'.cell? ⟨g, 0 + i * 1 + 0, none⟩ = some (.string ⟨(s[i]?.getD []).toArray⟩) := fun i hi => by
    have h5 : (cur.toList.take (s.length * 1))[i]? = (s.map encStr)[i]? := by rw [h4]
    rw [List.getElem?_take, if_pos (by omega), Array.getElem?_toList] at h5
    obtain ⟨u, hu⟩ := get_lt hi
    rw [List.getElem?_map, hu] at h5
    simp only [World.cell?, hg, Option.isSome_none, Bool.false_eq_true, if_false]
    rw [show 0 + i * 1 + 0 = i by omega, h5, hu]
    rfl
  let K' : Nat → Nat := fun b => if b = g then s.length else K b
  have hK'g : K' g = s.length := if_pos rfl
  have hK'o : ∀ b, b ≠ g → K' b = K b := fun b hb => if_neg hb
  have hkeep : Keep (· ∈ ([] : List Nat)) w w' := ⟨hb.os, hb.tape, hb.output, hb.size, fun b hlt _ => hb.block b hlt⟩
  refine ⟨_, K', [g], [], rfl, hkeep, ?_, ?_, ?_, ?_, .nil, by simp, ?_⟩
  · intro b hpos
    by_cases e : b = g
    · subst e
      rw [hK'g] at hpos ⊢
      exact ⟨cur, _, _, hg, by omega⟩
    · rw [hK'o b e] at hpos ⊢
      obtain ⟨cs, e1, fr, h5, h6⟩ := hk b hpos
      exact ⟨cs, e1, fr, by rw [hb.block b (hk.lt hpos)]; exact h5, h6⟩
  · refine ⟨fun b => ?_, fun b o ho => ?_⟩
    · by_cases e : b = g
      · subst e
        rw [hgK]
        exact Nat.zero_le _
      · rw [hK'o b e]
        exact Nat.le_refl _
    · exact cell_of_heap (hb.block b (hk.lt (by omega)))
  · intro b hlt _
    exact hK'o b (by omega)
  · refine .one (.l (.ow ?_ ?_ (enc_sz (e := e_str) _)))
    · rcases Nat.eq_zero_or_pos s.length with h5 | h5
      · have : s = [] := List.eq_nil_of_length_eq_zero h5
        subst this
        exact .slice0 _ _
      · have get : ∀ i y, (e_str s)[i]? = some y → i < s.length ∧ y = [.str (s[i]?.getD [])] := fun i y hy => by
          have hi : i < s.length := by
            have := lt_of_getElem? hy
            rw [enc_len (e := e_str)] at this
            exact this
          obtain ⟨u, hu⟩ := get_lt hi
          rw [enc_get (e := e_str) hu] at hy
          rw [hu]
          exact ⟨hi, (Option.some.inj hy).symm⟩
        have one : ∀ (j : Nat) (c : PV) (x : Str), ([.str x] : List PV)[j]? = some c → j = 0 ∧ c = .str x := fun j c x hj => by
          cases j with
          | zero => simp at hj; exact ⟨rfl, hj.symm⟩
          | succ j => simp at hj
        refine .slice g 0 s.length cap 1 _ (fun i _ => .string ⟨(s[i]?.getD []).toArray⟩) h5 (enc_len (e := e_str) s) h1 (by rw [hK'g]; omega) (fun i x hx => by rw [(get i x hx).2]; rfl) ?_ (fun _ _ _ _ _ _ => rfl) ?_
        · intro i y j c hy hj
          obtain ⟨hi, rfl⟩ := get i y hy
          obtain ⟨rfl, rfl⟩ := one j c _ hj
          exact hcells i hi
        · intro i y j c hy hj
          obtain ⟨hi, rfl⟩ := get i y hy
          obtain ⟨rfl, rfl⟩ := one j c _ hj
          exact .str _
    · rw [enc_len (e := e_str)]
      exact .row g s.length cap 1 cur _ hg h1 h2 h3 (by decide) (by rw [hK'g]; omega)
  · intro b hb2
    simp only [List.append_nil, List.mem_singleton] at hb2
    subst hb2
    exact .inr hbase
theorem ok_impl_SortNames (l : List Str) (hl : l.length < 68719476735) : C_impl_SortNames l (sortN l) := by
  refine ⟨⟨_, Try.func50, by decide, rfl⟩, fun K w vs bs hk hr hn => ?_⟩
  obtain ⟨v, rfl, hv, rfl⟩ : ∃ v, vs = #[v] ∧ Rep K w v (.slice (e_str l)) ∧ bs = [] := by
    have h := hr
    generalize hvs : vs.toList = us at h
    cases h with
    | cons h1 h2 =>
      cases h2
      cases h1 with
      | l h1 =>
        cases h1 with
        | fz h1 =>
          rename_i v0
          refine ⟨v0, ?_, h1, by simp⟩
          cases vs
          simp at hvs
          simp [hvs]
  refine calls_of_every_depth (L := snFence) (n := 67) fun D => ?_
  rcases sort_calls D hl hv with ⟨_, h, h0⟩ | h
  · refine h.mono ?_
    rintro e w' ⟨rfl, rfl⟩
    subst h0
    exact ⟨_, K, [], [], rfl, Keep.refl _ _, hk, Ext.refl _ _, fun _ _ _ => rfl, .one (.l (.ow (.slice0 _ _) (.nil 1) (by simp [sortN, e_str]))), .nil, by simp, by simp⟩
  · exact h.mono fun e w' he => left_ev hk he

end Go.Proofs.Ytfhgjhchjekbgaa
