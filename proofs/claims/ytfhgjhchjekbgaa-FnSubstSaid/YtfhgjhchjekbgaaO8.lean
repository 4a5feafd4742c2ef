/-
  What the functions on matches and substitutions do, of the program and of the reference.
-/
import Derived.Test.YtfhgjhchjekbgaaOA
import Derived.Test.YtfhgjhchjekbgaaSN2
import Derived.Test.YtfhgjhchjekbgaaCC
set_option linter.unusedVariables false
set_option linter.unusedSimpArgs false
namespace Go.Proofs.Ytfhgjhchjekbgaa
open Go

theorem ok_impl_VarsOfTerm (t : Tm) (ht : t.Ok) (hn : t.nodes < 68719476735) : C_impl_VarsOfTerm t (sortN t.names) := by
  refine via (w_impl_VarsOfTerm t (· = _) ?_)
  have := names_len t
  exact ⟨_, ok_impl_namesIn t ht hn, _, ok_impl_SortNames _ (by omega), rfl⟩
theorem ok_impl_RestrictSubst (l : List Bd) (ns : List Str) (hl : BOk l) (hn : ns.length < 68719476735) : C_impl_RestrictSubst l ns (restr l ns) := by
  refine via (w_impl_RestrictSubst l ns (· = restr l ns) ?_)
  refine ⟨_, ok_impl_SortNames ns hn, ?_⟩
  have hlen := sortN_len ns
  refine LOOP.up (sortN ns).length (fun k => ((sortN ns).take k).filterMap fun s => (bound l s).map fun t => ⟨s, t⟩) (by omega) (by simp) ?_
  intro k hk N hN
  try dsimp only
  refine ⟨fun h => ?_, fun h => ?_⟩
  · obtain ⟨u, hu⟩ := get_k h
    have hlt := lt_k h
    refine ⟨u, geti hu, _, ok_impl_FindBind l u hl, fun h2 => ⟨bnd (by have := restr_loop (l := l) (ns := sortN ns) (k := k); show _ + 1 ≤ _; omega) (by decide), hN hlt _ ?_⟩, fun h2 => hN hlt _ ?_⟩
    · rw [fm_snoc hu, boundT_some h2]
      rfl
    · rw [fm_snoc hu, bound_none h2]
      simp
  · rw [take_all (ge_k h)]
    rfl

/-- What a match gives. -/
def matchR (p t : Tm) : List Bd × Bool := if (p.mt t []).2 then (restr (p.mt t []).1 (sortN p.names), true) else ([], false)
theorem bok_nil : BOk [] := ⟨by decide, by simp, by simp⟩
theorem size_nodes (p : Tm) : p.nodes ≤ p.size := by
  induction p using Tm.ind with | h t ih =>
  have key : ∀ ts : List Tm, (∀ u ∈ ts, u.nodes ≤ u.size) → Tm.nodesL ts ≤ Tm.sizeL ts := by
    intro ts
    induction ts with
    | nil => intro _; simp [Tm.nodesL]
    | cons a ts ih2 =>
      intro h
      have h1 := h a (by simp)
      have h2 := ih2 fun u hu => h u (by simp [hu])
      simp only [Tm.nodesL, Tm.sizeL]
      omega
  have := key t.args ih
  rw [nodes_eq, Tm.size_eq]
  omega
section
variable {p t : Tm} (hp : p.Ok) (ht : t.Ok) (hs : p.size < 68719476735)
include hp ht hs
theorem ok_impl_MatchTerm : C_impl_MatchTerm p t (matchR p t) := by
  refine via (w_impl_MatchTerm p t (· = matchR p t) ?_)
  have hn := size_nodes p
  refine ⟨_, ok_impl_match p t [] hp ht bok_nil (by simpa using hs), fun h => ?_, fun h => ?_⟩
  · have e : (p.mt t []).2 = false := by simpa using h
    simp [matchR, e]
  · have e : (p.mt t []).2 = true := by simpa using h
    have hv := names_len p
    have hv2 := sortN_len p.names
    refine ⟨_, ok_impl_VarsOfTerm p hp (by omega), _, ok_impl_RestrictSubst _ _ (mt_bok hp ht bok_nil (by simpa using hs)) (by omega), ?_⟩
    simp [matchR, e]
theorem ok_spec_MatchTerm : C_spec_MatchTerm p t (matchR p t) := by
  refine via (w_spec_MatchTerm p t (· = matchR p t) ?_)
  have hn := size_nodes p
  obtain ⟨r, ⟨h1, h2⟩, h3⟩ := ok_spec_l8Match p t [] hp ht bok_nil (by simpa using hs)
  refine ⟨r, h3, fun h => ?_, fun h => ?_⟩
  · rw [h2 h]
    rw [h1] at h
    have hv := names_len p
    have hv2 := sortN_len p.names
    refine ⟨_, ok_spec_VarsOfTerm p hp (by omega), _, ok_spec_RestrictSubst _ _ (mt_bok hp ht bok_nil (by simpa using hs)) (by omega), ?_⟩
    simp [matchR, h]
  · rw [h1] at h
    simp [matchR, h]
theorem ok_impl_IsInstance : C_impl_IsInstance t p (p.mt t []).2 := by
  refine via (w_impl_IsInstance t p (· = _) ?_)
  exact ⟨_, ok_impl_match p t [] hp ht bok_nil (by simpa using hs), rfl⟩
theorem ok_spec_IsInstance : C_spec_IsInstance t p (p.mt t []).2 := by
  refine via (w_spec_IsInstance t p (· = _) ?_)
  refine ⟨_, ok_spec_MatchTerm hp ht hs, ?_⟩
  unfold matchR
  cases (p.mt t []).2 <;> rfl
end
def variantB (a b : Tm) : Bool := (b.mt a []).2 && (a.mt b []).2
theorem ok_impl_IsVariant {a b : Tm} (ha : a.Ok) (hb : b.Ok) (hs : a.size < 68719476735) (hs2 : b.size < 68719476735) : C_impl_IsVariant a b (variantB a b) := by
  refine via (w_impl_IsVariant a b (· = _) ?_)
  refine ⟨_, ok_impl_IsInstance hb ha hs2, fun h => ⟨_, ok_impl_IsInstance ha hb hs, ?_⟩, fun h => ?_⟩
  · simp [variantB, h]
  · simp [variantB, h]
theorem ok_spec_IsVariant {a b : Tm} (ha : a.Ok) (hb : b.Ok) (hs : a.size < 68719476735) (hs2 : b.size < 68719476735) : C_spec_IsVariant a b (variantB a b) := by
  refine via (w_spec_IsVariant a b (· = _) ?_)
  refine ⟨_, ok_spec_IsInstance hb ha hs2, fun h => ⟨_, ok_spec_IsInstance ha hb hs, ?_⟩, fun h => ?_⟩
  · simp [variantB, h]
  · simp [variantB, h]
theorem ok_impl_value (l : List Bd) (s : Str) (hl : BOk l) (hs : s.length < 68719476735) : C_impl_value l s ((Tm.mk 1 0 s []).apply l) := by
  refine via (w_impl_value l s (· = _) ?_)
  exact ⟨_, ok_impl_ApplySubst l hl _ (.mk _ (by simp [Tm.args]) (by simpa only [Tm.mk_name] using hs) (by simp [Tm.args])), rfl⟩
def sameB (a b : List Bd) : Bool := (a ++ b).all fun x => ((Tm.mk 1 0 x.name []).apply a).eqb ((Tm.mk 1 0 x.name []).apply b)
theorem apply_okv {l : List Bd} {s : Str} (hl : BOk l) (hs : s.length < 68719476735) : ((Tm.mk 1 0 s []).apply l).Ok := by
  have h0 : (Tm.mk 1 0 s []).Ok := .mk _ (by simp [Tm.args]) (by simpa only [Tm.mk_name] using hs) (by simp [Tm.args])
  rcases apply_cases l (Tm.mk 1 0 s []) with ⟨b, hb, e⟩ | e
  · rw [e]
    exact hl.tm b hb
  · rw [e]
    exact h0
theorem all_step {α : Type} {xs : List α} {k : Nat} {u : α} {f : α → Bool} (hu : xs[k]? = some u) (h : (xs.take k).all f = true) : (f u = true → (xs.take (k + 1)).all f = true) ∧ (f u = false → xs.all f = false) := by
  rw [← take_snoc hu, List.all_append, h]
  refine ⟨fun h2 => by simp [h2], fun h2 => ?_⟩
  rw [List.all_eq_false]
  exact ⟨u, List.mem_of_getElem? hu, by simp [h2]⟩
section
variable {a b : List Bd} (ha : BOk a) (hb : BOk b) (hab : a.length + b.length < 68719476735)
include ha hb hab
theorem ab_ok : BOk (a ++ b) := ⟨by rw [List.length_append]; omega, fun x hx => by
    rcases List.mem_append.1 hx with h | h
    · exact ha.tm x h
    · exact hb.tm x h, fun x hx => by
    rcases List.mem_append.1 hx with h | h
    · exact ha.nm x h
    · exact hb.nm x h⟩
theorem ok_impl_SameSubst : C_impl_SameSubst a b (sameB a b) := by
  refine via (w_impl_SameSubst a b (· = sameB a b) ?_)
  refine ⟨_, ok_Concat a b hab, ?_⟩
  have hok := ab_ok ha hb hab
  refine LOOP.up1 (a ++ b).length (fun k => ((a ++ b).take k).all (fun x => ((Tm.mk 1 0 x.name []).apply a).eqb ((Tm.mk 1 0 x.name []).apply b)) = true) (by have := hok.len; omega) (by simp) ?_
  intro k hk hP N hN
  try dsimp only
  refine ⟨fun h => ?_, fun h => ?_⟩
  · obtain ⟨u, hu⟩ := get_k h
    have hun := hok.nm u (List.mem_of_getElem? hu)
    have hst := all_step hu hP
    refine ⟨u, geti hu, _, ok_impl_value a u.name ha hun, _, ok_impl_value b u.name hb hun, _, ok_impl_EqualTerm _ _ (apply_okv ha hun), fun h2 => ?_, fun h2 => hN (lt_k h) (hst.1 (by simpa using h2))⟩
    exact (hst.2 (by simpa using h2)).symm
  · rw [take_all (ge_k h)] at hP
    exact hP.symm
theorem ok_spec_SameSubst : C_spec_SameSubst a b (sameB a b) := by
  refine via (w_spec_SameSubst a b (· = sameB a b) ?_)
  have hok := ab_ok ha hb hab
  refine ⟨bnd (by simp; omega) (by decide), bnd (by simp; omega) (by decide), ?_⟩
  simp only [List.nil_append]
  refine LOOP.up1 (a ++ b).length (fun k => ((a ++ b).take k).all (fun x => ((Tm.mk 1 0 x.name []).apply a).eqb ((Tm.mk 1 0 x.name []).apply b)) = true) (by have := hok.len; omega) (by simp) ?_
  intro k hk hP N hN
  try dsimp only
  refine ⟨fun h => ?_, fun h => ?_⟩
  · obtain ⟨u, hu⟩ := get_k h
    have hun := hok.nm u (List.mem_of_getElem? hu)
    have hst := all_step hu hP
    have h0 : (Tm.mk 1 0 u.name []).Ok := .mk _ (by simp [Tm.args]) (by simpa only [Tm.mk_name] using hun) (by simp [Tm.args])
    refine ⟨u, geti hu, _, ok_spec_l3Var _, _, ok_spec_ApplySubst a ha _ h0, _, ok_spec_ApplySubst b hb _ h0, _, ok_spec_EqualTerm _ _ (apply_okv ha hun), fun h2 => ?_, fun h2 => hN (lt_k h) (hst.1 (by simpa using h2))⟩
    exact (hst.2 (by simpa using h2)).symm
  · rw [take_all (ge_k h)] at hP
    exact hP.symm
end
theorem sameB_refl (a : List Bd) : sameB a a = true := by
  unfold sameB
  rw [List.all_eq_true]
  intro x _
  exact eqb_refl _

/-! ### The laws' own comparison -/

theorem ok_spec_l13Ints_refl (l : List Int) (hl : l.length < 68719476735) : C_spec_l13Ints l l true := by
  refine via (w_spec_l13Ints l l (· = true) ?_)
  refine ⟨fun h => absurd rfl (len_ne h), fun _ => ?_⟩
  refine LOOP.up1 l.length (fun _ => True) (by omega) trivial ?_
  intro k hk _ N hN
  refine ⟨fun h => ?_, fun h => rfl⟩
  obtain ⟨u, hu⟩ := get_k h
  refine ⟨u, geti hu, u, geti hu, fun h2 => ?_, fun _ => hN (lt_k h) trivial⟩
  simp at h2
theorem ok_spec_l22Binds_refl (l : List Bd) (hl : BOk l) : C_spec_l22Binds l l true := by
  refine via (w_spec_l22Binds l l (· = true) ?_)
  refine ⟨fun h => absurd rfl (len_ne h), fun _ => ?_⟩
  refine LOOP.up1 l.length (fun _ => True) (by have := hl.len; omega) trivial ?_
  intro k hk _ N hN
  refine ⟨fun h => ?_, fun h => rfl⟩
  obtain ⟨u, hu⟩ := get_k h
  refine ⟨u, geti hu, u, geti hu, fun h2 => ?_, fun _ => ⟨u, geti hu, u, geti hu, _, ok_spec_EqualTerm _ _ (hl.tm u (List.mem_of_getElem? hu)), fun h2 => ?_, fun _ => hN (lt_k h) trivial⟩⟩
  · simp at h2
  · rw [eqb_refl] at h2
    cases h2
theorem ok_sameBinds (l : List Bd) (hl : BOk l) : C_laws_sameBinds l l true := by
  refine via (w_laws_sameBinds l l (· = true) ?_)
  refine ⟨true, ?_, rfl⟩
  refine via (w_spec_EqualProof _ _ (· = true) ?_)
  refine ⟨fun h => absurd rfl (len_ne h), fun _ => ?_⟩
  refine LOOP.up1 1 (fun _ => True) (by decide) trivial ?_
  intro k hk _ N hN
  refine ⟨fun h => ?_, fun h => rfl⟩
  have hlt := lt_k h
  have hk0 : k < 1 := hlt
  obtain rfl : k = 0 := by omega
  refine ⟨_, geti0 rfl, _, geti0 rfl, fun h2 => ?_, fun _ => ⟨fun h2 => ?_, fun _ => ⟨true, ok_spec_l13Ints_refl [] (by decide), fun h2 => ?_, fun _ => ⟨true, ok_spec_l22Binds_refl l hl, fun h2 => ?_, fun _ => hN (by decide) trivial⟩⟩⟩⟩
  · simp at h2
  · simp at h2
  · cases h2
  · cases h2
theorem ok_big (xs : List Int) : C_laws_big xs (decide (((List.length xs : Nat) : Int) > (1048576 : Int))) := via (w_laws_big xs (· = _) rfl)

/-! ### The laws -/

theorem law_FnMatched (xs : List Int) : C_laws_FnMatched xs true := by
  refine via (w_laws_FnMatched xs (· = true) ?_)
  refine ⟨_, ok_big xs, fun _ => rfl, fun h => ?_⟩
  have hlen : xs.length ≤ 1048576 := by
    have := of_decide_eq_false h
    omega
  obtain ⟨r, ⟨hp, ht⟩, hr⟩ := dr_DrawMatchTerm xs hlen
  obtain ⟨v, ⟨hv1, hv2⟩, hv⟩ := dr_DrawIsVariant xs hlen
  have hpo := hp.ok (by decide) (by decide)
  have hto := ht.ok (by decide) (by decide)
  have hps : r.1.size < 68719476735 := by have := hp.size; omega
  have hv1o := hv1.ok (by decide) (by decide)
  have hv2o := hv2.ok (by decide) (by decide)
  have hv1s : v.1.size < 68719476735 := by have := hv1.size; omega
  have hv2s : v.2.size < 68719476735 := by have := hv2.size; omega
  have hmt := mt_bok hpo hto bok_nil (by simpa using hps)
  have hmr : BOk (matchR r.1 r.2).1 := by
    unfold matchR
    split
    · refine ⟨?_, ?_, ?_⟩
      · have h1 := restr_loop (l := (r.1.mt r.2 []).1) (ns := sortN (sortN r.1.names)) (k := (sortN (sortN r.1.names)).length)
        rw [List.take_length] at h1
        have h2 := sortN_len (sortN r.1.names)
        have h3 := sortN_len r.1.names
        have h4 := names_len r.1
        have h5 := hp.nodes
        show (List.filterMap _ _).length < _
        omega
      · intro b hb
        simp only [restr, List.mem_filterMap, Option.map_eq_some_iff] at hb
        obtain ⟨s, _, t, hbt, rfl⟩ := hb
        obtain ⟨b', h1, h2, _⟩ := bound_mem hbt
        rw [← h2]
        exact hmt.tm b' h1
      · intro b hb
        simp only [restr, List.mem_filterMap, Option.map_eq_some_iff] at hb
        obtain ⟨s, _, t, hbt, rfl⟩ := hb
        obtain ⟨b', h1, _, h3⟩ := bound_mem hbt
        rw [← h3]
        exact hmt.nm b' h1
    · exact bok_nil
  have h2eq : (matchR r.1 r.2).2 = (r.1.mt r.2 []).2 := by
    unfold matchR
    cases (r.1.mt r.2 []).2 <;> rfl
  refine ⟨r, hr, _, ok_impl_MatchTerm hpo hto hps, _, ok_spec_MatchTerm hpo hto hps, fun h2 => ?_, fun _ => ⟨true, ok_sameBinds _ hmr, fun h2 => ?_, fun _ => ⟨_, ok_impl_IsInstance hpo hto hps, fun h2 => ?_, fun _ => ⟨v, hv, fun h2 => ⟨_, ok_impl_IsVariant hv1o hv2o hv1s hv2s, _, ok_spec_IsVariant hv1o hv2o hv1s hv2s, ?_⟩, fun h2 => ?_⟩⟩⟩⟩
  · simp at h2
  · cases h2
  · rw [h2eq] at h2
    simp at h2
  · simp
  · have h3 : (r.1.mt r.2 []).2 = true := by
      rw [h2eq] at h2
      simpa using h2
    have e : r.1.apply (matchR r.1 r.2).1 = r.2 := by
      have h4 : (matchR r.1 r.2).1 = restr (r.1.mt r.2 []).1 (sortN r.1.names) := by
        unfold matchR
        rw [h3]
        rfl
      rw [h4]
      exact match_eq h3
    refine ⟨_, ok_impl_ApplySubst _ hmr _ hpo, _, ok_spec_EqualTerm _ _ (by rw [e]; exact hto), fun _ => ⟨_, ok_impl_IsVariant hv1o hv2o hv1s hv2s, _, ok_spec_IsVariant hv1o hv2o hv1s hv2s, ?_⟩, fun h4 => ?_⟩
    · simp
    · rw [e, eqb_refl] at h4
      cases h4

end Go.Proofs.Ytfhgjhchjekbgaa
set_option linter.unusedVariables false
set_option linter.unusedSimpArgs false
namespace Go.Proofs.Ytfhgjhchjekbgaa
open Go

theorem Sm.applyOk {l : List Bd} {n m : Nat} {t : Tm} (ht : Small n t) (hl : SBd 3 m l) (hm : 1 ≤ m) (hb : n * m < 68719476735) : Small (n * m) (t.apply l) :=
  (apply_sm hm hl.tm t ht.nm).mono (Nat.mul_le_mul_right _ ht.nodes)
theorem comp_bok {a b : List Bd} (ha : SBd 3 15 a) (hb : SBd 3 15 b) : BOk (comp a b) := by
  have hl1 := ha.len
  have hl2 := hb.len
  refine ⟨?_, ?_, ?_⟩
  · unfold comp
    rw [List.length_append, List.length_map]
    have := List.length_filter_le (fun x => !(bound a x.name).isSome) b
    omega
  · intro x hx
    unfold comp at hx
    rcases List.mem_append.1 hx with h | h
    · obtain ⟨y, hy, rfl⟩ := List.mem_map.1 h
      exact (Sm.applyOk (ha.tm y hy) hb (by decide) (by decide)).ok (by decide) (by decide)
    · exact (hb.tm x ((List.mem_filter.1 h).1)).ok (by decide) (by decide)
  · intro x hx
    unfold comp at hx
    rcases List.mem_append.1 hx with h | h
    · obtain ⟨y, hy, rfl⟩ := List.mem_map.1 h
      have := ha.nm y hy
      show y.name.length < _
      omega
    · have := hb.nm x ((List.mem_filter.1 h).1)
      omega
theorem restr_bok {l : List Bd} {ns : List Str} (hl : BOk l) (hn : ns.length < 68719476735) : BOk (restr l ns) := by
  refine ⟨?_, ?_, ?_⟩
  · have h1 := restr_loop (l := l) (ns := sortN ns) (k := (sortN ns).length)
    rw [List.take_length] at h1
    have h2 := sortN_len ns
    show (List.filterMap _ _).length < _
    omega
  · intro b hb
    simp only [restr, List.mem_filterMap, Option.map_eq_some_iff] at hb
    obtain ⟨s, _, t, hbt, rfl⟩ := hb
    obtain ⟨b', h1, h2, _⟩ := bound_mem hbt
    rw [← h2]
    exact hl.tm b' h1
  · intro b hb
    simp only [restr, List.mem_filterMap, Option.map_eq_some_iff] at hb
    obtain ⟨s, _, t, hbt, rfl⟩ := hb
    obtain ⟨b', h1, _, h3⟩ := bound_mem hbt
    rw [← h3]
    exact hl.nm b' h1
theorem law_FnSubst (xs : List Int) : C_laws_FnSubst xs true := by
  refine via (w_laws_FnSubst xs (· = true) ?_)
  refine ⟨_, ok_big xs, fun _ => rfl, fun h => ?_⟩
  have hlen : xs.length ≤ 1048576 := by
    have := of_decide_eq_false h
    omega
  obtain ⟨r, ⟨ha, hb⟩, hr⟩ := dr_DrawComposeSubst xs hlen
  obtain ⟨v, ⟨hv1, hv2⟩, hv⟩ := dr_DrawApplySubst xs hlen
  obtain ⟨w, ⟨hw1, hw2⟩, hw⟩ := dr_DrawRestrictSubst xs hlen
  obtain ⟨z, ⟨hz1, hz2⟩, hz⟩ := dr_DrawSameSubst xs hlen
  have ao := ha.bok (by decide) (by decide)
  have bo := hb.bok (by decide) (by decide)
  have co := comp_bok ha hb
  have ab : r.1.length + r.2.length < 68719476735 := by have := ha.len; have := hb.len; omega
  have aa : r.1.length + r.1.length < 68719476735 := by have := ha.len; omega
  have zz : z.1.length + z.2.length < 68719476735 := by have := hz1.len; have := hz2.len; omega
  have to := hv2.ok (by decide) (by decide)
  have ta := (Sm.applyOk hv2 ha (by decide) (by decide)).ok (by decide) (by decide)
  have tb := (Sm.applyOk (Sm.applyOk hv2 ha (by decide) (by decide)) hb (by decide) (by decide)).ok (by decide) (by decide)
  have wo := hw1.bok (by decide) (by decide)
  have zo1 := hz1.bok (by decide) (by decide)
  have zo2 := hz2.bok (by decide) (by decide)
  have e := comp_eq r.1 r.2 v.2
  refine ⟨r, hr, v, hv, _, ok_impl_ComposeSubst _ _ ao bo ab, _, ok_impl_ApplySubst _ co _ to, _, ok_impl_ApplySubst _ ao _ to, _, ok_impl_ApplySubst _ bo _ ta, _, ok_spec_EqualTerm _ _ (by rw [e]; exact tb), fun h2 => ?_, fun _ => ⟨_, ok_spec_ComposeSubst _ _ ao bo ab, true, ok_sameBinds _ co, fun h2 => ?_, fun _ => ⟨w, hw, _, ok_impl_RestrictSubst _ _ wo (by omega), z, hz, _, ok_spec_RestrictSubst _ _ wo (by omega), true, ok_sameBinds _ (restr_bok wo (by omega)), fun _ => ⟨_, ok_impl_SameSubst zo1 zo2 zz, _, ok_spec_SameSubst zo1 zo2 zz, fun _ => ⟨_, ok_impl_SameSubst ao ao aa, sameB_refl _⟩, fun h2 => ?_⟩, fun h2 => ?_⟩⟩⟩
  · rw [e, eqb_refl] at h2
    cases h2
  · cases h2
  · simp at h2
  · cases h2
end Go.Proofs.Ytfhgjhchjekbgaa
