/-
  Small facts for what bodies come to: loops that count up, bounds, terms of bounded width.
-/
import Derived.Test.YtfhgjhchjekbgaaE3
import Derived.Test.YtfhgjhchjekbgaaGA0
import Derived.Test.YtfhgjhchjekbgaaGA1
import Derived.Test.YtfhgjhchjekbgaaGA2
import Derived.Test.YtfhgjhchjekbgaaGA3
set_option linter.unusedVariables false
set_option linter.unusedSimpArgs false
namespace Go.Proofs.Ytfhgjhchjekbgaa
open Go

/-- A result that is told exactly. -/
theorem via {R : Type} {C : R → Prop} {x : R} (h : ∃ r, r = x ∧ C r) : C x := by
  obtain ⟨r, rfl, h⟩ := h
  exact h

/-- 2^36: lists here are shorter. -/
abbrev LIM : Nat := 68719476736

theorem inc_wrap {k : Nat} (h : k < 4611686018427387904) : IntKind.i64.wrap ((k : Int) + (1 : Int)) = ((k + 1 : Nat) : Int) := by
  rw [i64_wrap (by omega) (by omega)]
  simp
theorem dec_wrap {k : Nat} (h : k < 4611686018427387904) : IntKind.i64.wrap (((k + 1 : Nat) : Int) - (1 : Int)) = (k : Int) := by
  rw [i64_wrap (by omega) (by omega)]
  simp

/-- A loop that counts up from 0 to n. -/
theorem LOOP.upP {β : Type} {body : (Int × β → Prop) → Int × β → Prop} {b : β} (n : Nat) (P : Nat → β → Prop) (hn : n < 4611686018427387904) (h0 : P 0 b)
    (h : ∀ k, k ≤ n → ∀ b, P k b → ∀ N : Int × β → Prop, (k < n → ∀ b', P (k + 1) b' → N (IntKind.i64.wrap ((k : Int) + (1 : Int)), b')) → body N ((k : Int), b)) : LOOP body ((0 : Int), b) := by
  refine ⟨fun s => ∃ k : Nat, k ≤ n ∧ s.1 = k ∧ P k s.2, fun s => n - s.1.toNat, ⟨0, Nat.zero_le _, rfl, h0⟩, ?_⟩
  rintro ⟨i, b⟩ ⟨k, hk, hi, hP⟩
  simp only at hi hP
  subst hi
  refine h k hk b hP _ fun hlt b' hb' => ?_
  rw [inc_wrap (by omega)]
  refine ⟨⟨k + 1, hlt, rfl, hb'⟩, ?_⟩
  show n - ((k + 1 : Nat) : Int).toNat < n - ((k : Nat) : Int).toNat
  simp only [Int.toNat_natCast]
  omega
theorem LOOP.up {β : Type} {body : (Int × β → Prop) → Int × β → Prop} {b : β} (n : Nat) (f : Nat → β) (hn : n < 4611686018427387904) (h0 : b = f 0)
    (h : ∀ k, k ≤ n → ∀ N : Int × β → Prop, (k < n → ∀ b', b' = f (k + 1) → N (IntKind.i64.wrap ((k : Int) + (1 : Int)), b')) → body N ((k : Int), f k)) : LOOP body ((0 : Int), b) :=
  LOOP.upP n (fun k b => b = f k) hn h0 fun k hk b hb N hN => by
    subst hb
    exact h k hk N hN
theorem LOOP.up1 {body : (Int → Prop) → Int → Prop} (n : Nat) (P : Nat → Prop) (hn : n < 4611686018427387904) (h0 : P 0)
    (h : ∀ k, k ≤ n → P k → ∀ N : Int → Prop, (k < n → P (k + 1) → N (IntKind.i64.wrap ((k : Int) + (1 : Int)))) → body N (k : Int)) : LOOP body (0 : Int) := by
  refine ⟨fun s => ∃ k : Nat, k ≤ n ∧ s = k ∧ P k, fun s => n - s.toNat, ⟨0, Nat.zero_le _, rfl, h0⟩, ?_⟩
  rintro i ⟨k, hk, hi, hP⟩
  subst hi
  refine h k hk hP _ fun hlt hb' => ?_
  rw [inc_wrap (by omega)]
  refine ⟨⟨k + 1, hlt, rfl, hb'⟩, ?_⟩
  simp only [Int.toNat_natCast]
  omega
/-- A loop with a measure. -/
theorem LOOP.by {σ : Type} {body : (σ → Prop) → σ → Prop} {s : σ} (I : σ → Prop) (μ : σ → Nat) (h0 : I s) (h : ∀ s, I s → ∀ N : σ → Prop, (∀ s', I s' → μ s' < μ s → N s') → body N s) : LOOP body s :=
  ⟨I, μ, h0, fun s hs => h s hs _ fun s' h1 h2 => ⟨h1, h2⟩⟩

/-! ### Conditions -/

theorem lt_k {k n : Nat} (h : decide ((k : Int) < ((n : Nat) : Int)) = true) : k < n := by
  have := of_decide_eq_true h
  omega
theorem ge_k {k n : Nat} (h : decide ((k : Int) < ((n : Nat) : Int)) = false) : n ≤ k := by
  have := of_decide_eq_false h
  omega
theorem get_k {α : Type} {xs : List α} {k : Nat} (h : decide ((k : Int) < ((xs.length : Nat) : Int)) = true) : ∃ u, xs[k]? = some u := get_lt (lt_k h)
theorem geti {α : Type} {xs : List α} {k : Nat} {u : α} (h : xs[k]? = some u) : GETI xs (k : Int) u := ⟨Int.natCast_nonneg k, h⟩
theorem geti0 {α : Type} {xs : List α} {u : α} (h : xs[0]? = some u) : GETI xs (0 : Int) u := ⟨Int.le_refl 0, h⟩
theorem bnd {a b c : Nat} (h : a + b ≤ 68719476736) (hc : c ≤ 2048) : (a + b) * c ≤ 140737488355328 := Nat.mul_le_mul h hc
theorem len_ne {a b : Nat} (h : (((a : Nat) : Int) != ((b : Nat) : Int)) = true) : a ≠ b := by
  intro e
  subst e
  simp at h
theorem len_eq {a b : Nat} (h : (((a : Nat) : Int) != ((b : Nat) : Int)) = false) : a = b := by
  simp at h
  omega
theorem take_snoc {α : Type} {xs : List α} {k : Nat} {u : α} (h : xs[k]? = some u) : xs.take k ++ [u] = xs.take (k + 1) := by
  rw [List.take_add_one, h]
  rfl
theorem take_snocm {α β : Type} {f : α → β} {xs : List α} {k : Nat} {u : α} (h : xs[k]? = some u) : (xs.take k).map f ++ [f u] = (xs.take (k + 1)).map f := by
  rw [← take_snoc h]
  simp
theorem take_all {α : Type} {xs : List α} {k : Nat} (h : xs.length ≤ k) : xs.take k = xs := List.take_of_length_le h
theorem take_len {α : Type} (xs : List α) (k : Nat) : (xs.take k).length ≤ k := by simp; omega
theorem drop_get {α : Type} {xs : List α} {k : Nat} {u : α} (h : xs[k]? = some u) : xs.drop k = u :: xs.drop (k + 1) := by
  have hlt := lt_of_getElem? h
  rw [List.getElem?_eq_getElem hlt] at h
  simp only [Option.some.injEq] at h
  rw [List.drop_eq_getElem_cons hlt, h]
theorem drop_all {α : Type} {xs : List α} {k : Nat} (h : xs.length ≤ k) : xs.drop k = [] := List.drop_eq_nil_of_le h
theorem get_lt' {α : Type} {xs : List α} {k : Nat} {u : α} (h : xs[k]? = some u) : k < xs.length := lt_of_getElem? h

/-! ### Terms of bounded width -/

theorem Tm.ind {P : Tm → Prop} (h : ∀ t : Tm, (∀ u ∈ t.args, P u) → P t) (t : Tm) : P t := by
  have key : ∀ (n : Nat) (t : Tm), t.size ≤ n → P t := by
    intro n
    induction n with
    | zero => intro t ht; have := t.size_pos; omega
    | succ n ih =>
      intro t ht
      refine h t fun u hu => ih u ?_
      obtain ⟨i, hi⟩ := List.mem_iff_getElem?.1 hu
      have := Tm.args_lt hi
      omega
  exact key t.size t (Nat.le_refl _)
/-- No node has too many arguments, no name is too long. -/
inductive Tm.Ok : Tm → Prop where
  | mk (t : Tm) (hl : t.args.length < 68719476735) (hn : t.name.length < 68719476735) (ha : ∀ u ∈ t.args, u.Ok) : Tm.Ok t
theorem Tm.Ok.len {t : Tm} (h : t.Ok) : t.args.length < 68719476735 := by cases h; assumption
theorem Tm.Ok.name {t : Tm} (h : t.Ok) : t.name.length < 68719476735 := by cases h; assumption
theorem Tm.Ok.args {t : Tm} (h : t.Ok) : ∀ u ∈ t.args, u.Ok := by cases h; assumption
theorem Tm.Ok.get {t : Tm} (h : t.Ok) {k : Nat} {u : Tm} (hu : t.args[k]? = some u) : u.Ok := h.args u (List.mem_of_getElem? hu)
/-- All terms are of bounded width, the list is not too long. -/
structure BOk (l : List Bd) : Prop where
  mk ::
  len : l.length < 68719476735
  tm : ∀ b ∈ l, b.term.Ok
  nm : ∀ b ∈ l, b.name.length < 68719476735
theorem zero_ok : zeroTm.Ok := .mk _ (by simp [zeroTm, Tm.args]) (by simp [zeroTm, Tm.name]) (by simp [zeroTm, Tm.args])
theorem BOk.bound {l : List Bd} (h : BOk l) (s : Str) : (boundT l s).Ok := by
  unfold boundT
  cases hb : Go.Proofs.Ytfhgjhchjekbgaa.bound l s with
  | none => exact zero_ok
  | some t =>
    unfold Go.Proofs.Ytfhgjhchjekbgaa.bound at hb
    rw [Option.map_eq_some_iff] at hb
    obtain ⟨b, hb, rfl⟩ := hb
    exact h.tm b (List.mem_of_find?_eq_some hb)
theorem Tm.eta (t : Tm) : Tm.mk t.kind t.n t.name t.args = t := by cases t; rfl
theorem Tm.mk_kind (k n : Int) (s : Str) (a : List Tm) : (Tm.mk k n s a).kind = k := rfl
theorem Tm.mk_n (k n : Int) (s : Str) (a : List Tm) : (Tm.mk k n s a).n = n := rfl
theorem Tm.mk_name (k n : Int) (s : Str) (a : List Tm) : (Tm.mk k n s a).name = s := rfl
theorem Tm.mk_args (k n : Int) (s : Str) (a : List Tm) : (Tm.mk k n s a).args = a := rfl

end Go.Proofs.Ytfhgjhchjekbgaa
set_option linter.unusedVariables false
set_option linter.unusedSimpArgs false
namespace Go.Proofs.Ytfhgjhchjekbgaa
open Go

theorem ok_impl_copyTerm (t : Tm) : t.Ok → C_impl_copyTerm t t := by
  induction t using Tm.ind with | h t ih =>
  intro ht
  refine via (w_impl_copyTerm t (· = t) ?_)
  refine LOOP.up t.args.length (fun k => t.args.take k) (by have := ht.len; omega) rfl ?_
  intro k hk N hN
  try dsimp only
  refine ⟨fun h => ?_, fun h => ?_⟩
  · obtain ⟨u, hu⟩ := get_k h
    exact ⟨u, geti hu, u, ih u (List.mem_of_getElem? hu) (ht.get hu), bnd (by have := take_len t.args k; have := ht.len; show (t.args.take k).length + 1 ≤ _; omega) (by decide), hN (lt_k h) _ (take_snoc hu)⟩
  · show Tm.mk t.kind t.n t.name (t.args.take k) = t
    rw [take_all (ge_k h), Tm.eta]

theorem ok_spec_l3Copy (t : Tm) : t.Ok → C_spec_l3Copy t t := by
  induction t using Tm.ind with | h t ih =>
  intro ht
  refine via (w_spec_l3Copy t (· = t) ?_)
  refine LOOP.up t.args.length (fun k => t.args.take k) (by have := ht.len; omega) rfl ?_
  intro k hk N hN
  try dsimp only
  refine ⟨fun h => ?_, fun h => ?_⟩
  · obtain ⟨u, hu⟩ := get_k h
    exact ⟨u, geti hu, u, ih u (List.mem_of_getElem? hu) (ht.get hu), bnd (by have := take_len t.args k; have := ht.len; show (t.args.take k).length + 1 ≤ _; omega) (by decide), hN (lt_k h) _ (take_snoc hu)⟩
  · show Tm.mk t.kind t.n t.name (t.args.take k) = t
    rw [take_all (ge_k h), Tm.eta]

theorem ok_impl_bound (l : List Bd) (s : Str) (hl : l.length < 68719476735) : C_impl_bound l s (boundT l s, (bound l s).isSome) := by
  refine via (w_impl_bound l s (· = _) ?_)
  refine LOOP.up1 l.length (fun k => bound l s = bound (l.drop k) s) (by omega) rfl ?_
  intro k hk hb N hN
  refine ⟨fun h => ?_, fun h => ?_⟩
  · obtain ⟨u, hu⟩ := get_k h
    refine ⟨u, geti hu, fun h2 => ?_, fun h2 => hN (lt_k h) (hb.trans (bound_skip hu h2))⟩
    have e := hb.trans (bound_here hu h2)
    rw [boundT, e]
    rfl
  · rw [boundT, hb, drop_all (ge_k h)]
    rfl
theorem ok_impl_FindBind (l : List Bd) (s : Str) (hl : BOk l) : C_impl_FindBind l s (boundT l s, (bound l s).isSome) := by
  refine via (w_impl_FindBind l s (· = _) ?_)
  exact ⟨_, ok_impl_bound l s hl.len, _, ok_impl_copyTerm _ (hl.bound s), rfl⟩
theorem ok_impl_copyBind (b : Bd) (h : b.term.Ok) : C_impl_copyBind b b := by
  refine via (w_impl_copyBind b (· = _) ?_)
  exact ⟨_, ok_impl_copyTerm _ h, rfl⟩

theorem ok_impl_ApplySubst (l : List Bd) (hl : BOk l) (t : Tm) : t.Ok → C_impl_ApplySubst l t (t.apply l) := by
  induction t using Tm.ind with | h t ih =>
  intro ht
  refine via (w_impl_ApplySubst l t (· = t.apply l) ?_)
  refine ⟨fun _ => t.apply l = .mk t.kind t.n t.name (t.args.map (Tm.apply l)), fun _ hnew => ?_,
    fun h1 => ⟨_, ok_impl_bound l t.name hl.len, fun h2 => ⟨_, ok_impl_copyTerm _ (hl.bound _), (Tm.apply_var h1 (boundT_some h2)).symm⟩, fun h2 => Tm.apply_new (.inr (bound_none h2))⟩, fun h1 => Tm.apply_new (.inl h1)⟩
  refine LOOP.up t.args.length (fun k => (t.args.take k).map (Tm.apply l)) (by have := ht.len; omega) rfl ?_
  intro k hk N hN
  try dsimp only
  refine ⟨fun h => ?_, fun h => ?_⟩
  · obtain ⟨u, hu⟩ := get_k h
    exact ⟨u, geti hu, _, ih u (List.mem_of_getElem? hu) (ht.get hu), bnd (by have := take_len t.args k; have := ht.len; show ((t.args.take k).map (Tm.apply l)).length + 1 ≤ _; rw [List.length_map]; omega) (by decide), hN (lt_k h) _ (take_snocm hu)⟩
  · show Tm.mk t.kind t.n t.name ((t.args.take k).map (Tm.apply l)) = t.apply l
    rw [take_all (ge_k h), hnew]

theorem ok_spec_l7At (l : List Bd) (s : Str) (hl : l.length < 68719476735) : C_spec_l7At l s (atI l s) := by
  refine via (w_spec_l7At l s (· = _) ?_)
  refine LOOP.up1 l.length (fun k => ∀ j b, j < k → l[j]? = some b → (b.name == s) = false) (by omega) (fun j b h => by omega) ?_
  intro k hk hP N hN
  try dsimp only
  refine ⟨fun h => ?_, fun h => ?_⟩
  · obtain ⟨u, hu⟩ := get_k h
    refine ⟨u, geti hu, fun h2 => ?_, fun h2 => hN (lt_k h) fun j b hj hb => ?_⟩
    · simp only [atI, boundAt_here hP hu h2]
    · by_cases e : j = k
      · subst e
        rw [hu] at hb
        cases hb
        exact h2
      · exact hP j b (by omega) hb
  · have := ge_k h
    simp only [atI, boundAt_end (fun j b hj hb => hP j b (by omega) hb)]
theorem atI_none {l : List Bd} {s : Str} (h : decide (atI l s < (0 : Int)) = true) : bound l s = none := by
  unfold atI at h
  cases e : boundAt l s with
  | none => exact boundAt_none e
  | some k =>
    rw [e] at h
    have := of_decide_eq_true h
    simp only at this
    omega
theorem atI_some {l : List Bd} {s : Str} (h : decide (atI l s < (0 : Int)) = false) : ∃ (k : Nat) (b : Bd), atI l s = k ∧ l[k]? = some b ∧ bound l s = some b.term := by
  unfold atI at h ⊢
  cases e : boundAt l s with
  | none =>
    rw [e] at h
    simp at h
  | some k =>
    obtain ⟨b, h1, h2⟩ := boundAt_some e
    exact ⟨k, b, rfl, h1, h2⟩
theorem ok_spec_FindBind (l : List Bd) (s : Str) (hl : BOk l) : C_spec_FindBind l s (boundT l s, (bound l s).isSome) := by
  refine via (w_spec_FindBind l s (· = _) ?_)
  refine ⟨_, ok_spec_l7At l s hl.len, fun h => ?_, fun h => ?_⟩
  · rw [boundT, atI_none h]
    rfl
  · obtain ⟨k, b, h1, h2, h3⟩ := atI_some h
    rw [h1, boundT, h3]
    exact ⟨b, geti h2, b.term, ok_spec_l3Copy _ (hl.tm b (List.mem_of_getElem? h2)), rfl⟩
theorem ok_spec_ApplySubst (l : List Bd) (hl : BOk l) (t : Tm) : t.Ok → C_spec_ApplySubst l t (t.apply l) := by
  induction t using Tm.ind with | h t ih =>
  intro ht
  refine via (w_spec_ApplySubst l t (· = t.apply l) ?_)
  refine ⟨fun _ => t.apply l = .mk t.kind t.n t.name (t.args.map (Tm.apply l)), fun _ hnew => ?_,
    fun h1 => ⟨_, ok_spec_FindBind l t.name hl, fun h2 => (Tm.apply_var h1 (boundT_some h2)).symm, fun h2 => Tm.apply_new (.inr (bound_none h2))⟩, fun h1 => Tm.apply_new (.inl h1)⟩
  refine LOOP.up t.args.length (fun k => (t.args.take k).map (Tm.apply l)) (by have := ht.len; omega) rfl ?_
  intro k hk N hN
  try dsimp only
  refine ⟨fun h => ?_, fun h => ?_⟩
  · obtain ⟨u, hu⟩ := get_k h
    exact ⟨u, geti hu, _, ih u (List.mem_of_getElem? hu) (ht.get hu), bnd (by have := take_len t.args k; have := ht.len; show ((t.args.take k).map (Tm.apply l)).length + 1 ≤ _; rw [List.length_map]; omega) (by decide), hN (lt_k h) _ (take_snocm hu)⟩
  · show Tm.mk t.kind t.n t.name ((t.args.take k).map (Tm.apply l)) = t.apply l
    rw [take_all (ge_k h), hnew]

/-! ### Equal terms -/

theorem eqb_not {a b : Bool} (h : (!(a == b)) = true) : a ≠ b := by cases a <;> cases b <;> simp at h ⊢
theorem ok_spec_EqualTerm (t : Tm) : ∀ u : Tm, t.Ok → C_spec_EqualTerm t u (t.eqb u) := by
  induction t using Tm.ind with | h t ih =>
  intro u ht
  refine via (w_spec_EqualTerm t u (· = t.eqb u) ?_)
  rw [eqb_eq]
  refine ⟨fun h => ?_, fun h => ⟨fun h2 => ?_, fun h2 => ⟨fun h3 => ?_, fun h3 => ⟨fun h4 => ?_, fun h4 => ?_⟩⟩⟩⟩
  · have : (t.kind == u.kind) = false := by simpa using h
    rw [this]
    rfl
  · have : (t.n == u.n) = false := by simpa using h2
    rw [this]
    simp
  · have : (t.name == u.name) = false := by simpa using h3
    rw [this]
    simp
  · rw [eqbL_len _ _ (len_ne h4)]
    simp
  · have e1 : (t.kind == u.kind) = true := by simpa using h
    have e2 : (t.n == u.n) = true := by simpa using h2
    have e3 : (t.name == u.name) = true := by simpa using h3
    have e4 := len_eq h4
    rw [e1, e2, e3]
    simp only [Bool.true_and]
    refine LOOP.up1 t.args.length (fun k => Tm.eqbL t.args u.args = Tm.eqbL (t.args.drop k) (u.args.drop k)) (by have := ht.len; omega) rfl ?_
    intro k hk hP N hN
    try dsimp only
    refine ⟨fun h => ?_, fun h => ?_⟩
    · obtain ⟨a, ha⟩ := get_k h
      obtain ⟨b, hb⟩ : ∃ b, u.args[k]? = some b := get_lt (by have := lt_k h; omega)
      rw [drop_get ha, drop_get hb] at hP
      simp only [Tm.eqbL] at hP
      refine ⟨a, geti ha, b, geti hb, _, ih a (List.mem_of_getElem? ha) b (ht.get ha), fun h5 => ?_, fun h5 => ?_⟩
      · have : a.eqb b = false := by simpa using h5
        rw [hP, this]
        rfl
      · have : a.eqb b = true := by simpa using h5
        rw [this, Bool.true_and] at hP
        exact hN (lt_k h) hP
    · rw [hP, drop_all (ge_k h), drop_all (by have := ge_k h; omega)]
      rfl

end Go.Proofs.Ytfhgjhchjekbgaa
set_option linter.unusedVariables false
set_option linter.unusedSimpArgs false
namespace Go.Proofs.Ytfhgjhchjekbgaa
open Go

theorem ok_EqualFunc (ts us : List Tm) (hl : ts.length < 68719476735) (h : ∀ t ∈ ts, ∀ u, C_impl_EqualTerm t u (t.eqb u)) : C_slices_EqualFunc_Term ts us ((55, []) : Clo) (Tm.eqbL ts us) := by
  refine via (w_slices_EqualFunc_Term ts us _ (· = Tm.eqbL ts us) ?_)
  refine ⟨fun h1 => (eqbL_len _ _ (len_ne h1)).symm, fun h1 => ?_⟩
  have e4 := len_eq h1
  refine LOOP.up1 ts.length (fun k => Tm.eqbL ts us = Tm.eqbL (ts.drop k) (us.drop k)) (by omega) rfl ?_
  intro k hk hP N hN
  try dsimp only
  refine ⟨fun h2 => ?_, fun h2 => ?_⟩
  · obtain ⟨a, ha⟩ := get_k h2
    obtain ⟨b, hb⟩ : ∃ b, us[k]? = some b := get_lt (by have := lt_k h2; omega)
    rw [drop_get ha, drop_get hb] at hP
    simp only [Tm.eqbL] at hP
    refine ⟨a, geti ha, b, geti hb, a.eqb b, h a (List.mem_of_getElem? ha) b, fun h5 => ?_, fun h5 => ?_⟩
    · have : a.eqb b = false := by simpa using h5
      rw [hP, this]
      rfl
    · have : a.eqb b = true := by simpa using h5
      rw [this, Bool.true_and] at hP
      exact hN (lt_k h2) hP
  · rw [hP, drop_all (ge_k h2), drop_all (by have := ge_k h2; omega)]
    rfl
theorem ok_impl_EqualTerm (t : Tm) : ∀ u : Tm, t.Ok → C_impl_EqualTerm t u (t.eqb u) := by
  induction t using Tm.ind with | h t ih =>
  intro u ht
  refine via (w_impl_EqualTerm t u (· = t.eqb u) ?_)
  rw [eqb_eq]
  refine ⟨fun h => ⟨fun h2 => ⟨fun h3 => ⟨_, ok_EqualFunc t.args u.args ht.len (fun a ha b => ih a ha b (ht.args a ha)), ?_⟩, fun h3 => ?_⟩, fun h2 => ?_⟩, fun h => ?_⟩
  · rw [h, h2, h3]
    rfl
  · rw [h3]
    simp
  · rw [h2]
    simp
  · rw [h]
    rfl
theorem eqb_refl (t : Tm) : t.eqb t = true := by
  induction t using Tm.ind with | h t ih =>
  rw [eqb_eq]
  have : Tm.eqbL t.args t.args = true := by
    rw [eqbL_iff _ _ rfl]
    intro i a b ha hb
    rw [ha] at hb
    cases hb
    exact ih a (List.mem_of_getElem? ha)
  simp [this]
theorem eqb_of {t : Tm} : ∀ {u : Tm}, t.eqb u = true → t = u := by
  induction t using Tm.ind with | h t ih =>
  intro u h
  rw [eqb_eq] at h
  simp only [Bool.and_eq_true, beq_iff_eq] at h
  obtain ⟨⟨⟨h1, h2⟩, h3⟩, h4⟩ := h
  have hl : t.args.length = u.args.length := by
    by_cases e : t.args.length = u.args.length
    · exact e
    · rw [eqbL_len _ _ e] at h4
      cases h4
  rw [eqbL_iff _ _ hl] at h4
  rw [← Tm.eta t, ← Tm.eta u, h1, h2, h3]
  congr 1
  apply List.ext_getElem?
  intro i
  by_cases hi : i < t.args.length
  · obtain ⟨a, ha⟩ := get_lt hi
    obtain ⟨b, hb⟩ : ∃ b, u.args[i]? = some b := get_lt (by omega)
    rw [ha, hb, ih a (List.mem_of_getElem? ha) (h4 i a b ha hb)]
  · rw [List.getElem?_eq_none (by omega), List.getElem?_eq_none (by omega)]
theorem eqb_iff (t u : Tm) : t.eqb u = true ↔ t = u := ⟨eqb_of, fun h => h ▸ eqb_refl t⟩

/-! ### Names of variables -/

mutual
/-- The names of the variables, in order. -/
def Tm.names : Tm → List Str
  | .mk k _ s a => (if k == 1 then [s] else []) ++ Tm.namesL a
def Tm.namesL : List Tm → List Str
  | [] => []
  | t :: ts => t.names ++ Tm.namesL ts
end
theorem names_eq (t : Tm) : t.names = (if t.kind == 1 then [t.name] else []) ++ Tm.namesL t.args := by cases t; simp [Tm.names, Tm.kind, Tm.name, Tm.args]
theorem namesL_snoc {ts : List Tm} {k : Nat} {u : Tm} (h : ts[k]? = some u) : Tm.namesL (ts.take (k + 1)) = Tm.namesL (ts.take k) ++ u.names := by
  rw [← take_snoc h]
  generalize ts.take k = l
  induction l with
  | nil => simp [Tm.namesL]
  | cons x l ih => simp [Tm.namesL, ih]
mutual
/-- How many nodes a term has. -/
def Tm.nodes : Tm → Nat
  | .mk _ _ _ a => 1 + Tm.nodesL a
def Tm.nodesL : List Tm → Nat
  | [] => 0
  | t :: ts => t.nodes + Tm.nodesL ts
end
theorem nodes_eq (t : Tm) : t.nodes = 1 + Tm.nodesL t.args := by cases t; simp [Tm.nodes, Tm.args]
theorem nodesL_snoc {ts : List Tm} {k : Nat} {u : Tm} (h : ts[k]? = some u) : Tm.nodesL (ts.take (k + 1)) = Tm.nodesL (ts.take k) + u.nodes := by
  rw [← take_snoc h]
  generalize ts.take k = l
  induction l with
  | nil => simp [Tm.nodesL]
  | cons x l ih => simp [Tm.nodesL, ih]; omega
theorem nodesL_take_le (ts : List Tm) (k : Nat) : Tm.nodesL (ts.take k) ≤ Tm.nodesL ts := by
  induction ts generalizing k with
  | nil => simp
  | cons t ts ih =>
    cases k with
    | zero => simp [Tm.nodesL]
    | succ k =>
      have := ih k
      simp [Tm.nodesL]
      omega
theorem nodesL_get {ts : List Tm} {k : Nat} {u : Tm} (h : ts[k]? = some u) : u.nodes ≤ Tm.nodesL ts := by
  have h1 := nodesL_snoc h
  have h2 := nodesL_take_le ts (k + 1)
  omega
theorem nodesL_len (ts : List Tm) : ts.length ≤ Tm.nodesL ts := by
  induction ts with
  | nil => simp
  | cons t ts ih =>
    have := nodes_eq t
    simp [Tm.nodesL]
    omega
theorem names_len (t : Tm) : t.names.length ≤ t.nodes := by
  induction t using Tm.ind with | h t ih =>
  rw [names_eq, nodes_eq]
  have key : ∀ ts : List Tm, (∀ u ∈ ts, u.names.length ≤ u.nodes) → (Tm.namesL ts).length ≤ Tm.nodesL ts := by
    intro ts
    induction ts with
    | nil => simp [Tm.namesL]
    | cons a ts ih2 =>
      intro h
      have h1 := h a (by simp)
      have h2 := ih2 (fun u hu => h u (by simp [hu]))
      simp only [Tm.namesL, Tm.nodesL, List.length_append]
      omega
  have := key t.args ih
  rw [List.length_append]
  split <;> simp <;> omega
theorem namesL_len (ts : List Tm) : (Tm.namesL ts).length ≤ Tm.nodesL ts := by
  induction ts with
  | nil => simp [Tm.namesL]
  | cons t ts ih =>
    have := names_len t
    simp only [Tm.namesL, Tm.nodesL, List.length_append]
    omega

theorem ok_impl_namesIn (t : Tm) : t.Ok → t.nodes < 68719476735 → C_impl_namesIn t t.names := by
  induction t using Tm.ind with | h t ih =>
  intro ht hn
  refine via (w_impl_namesIn t (· = t.names) ?_)
  have hnn := nodes_eq t
  refine ⟨fun l => l = (if t.kind == 1 then [t.name] else []), ?_, fun h1 => ⟨?_, ?_⟩, fun h1 => ?_⟩
  · rintro l rfl
    refine LOOP.up t.args.length (fun k => (if t.kind == 1 then [t.name] else []) ++ Tm.namesL (t.args.take k)) (by have := ht.len; omega) (by simp [Tm.namesL]) ?_
    intro k hk N hN
    try dsimp only
    have hb1 : ((if t.kind == 1 then [t.name] else []) ++ Tm.namesL (t.args.take k)).length ≤ 1 + Tm.nodesL (t.args.take k) := by
      have := namesL_len (t.args.take k)
      rw [List.length_append]
      split <;> simp <;> omega
    refine ⟨fun h => ?_, fun h => ?_⟩
    · obtain ⟨u, hu⟩ := get_k h
      have h1 := nodesL_get hu
      have h2 := names_len u
      have h3 := nodesL_snoc hu
      have h4 := nodesL_take_le t.args (k + 1)
      refine ⟨u, geti hu, _, ih u (List.mem_of_getElem? hu) (ht.get hu) (by omega), bnd ?_ (by decide), hN (lt_k h) _ ?_⟩
      · try simp only at hb1 ⊢
        omega
      · try simp only
        rw [namesL_snoc hu, List.append_assoc]
    · try simp only
      rw [take_all (ge_k h), names_eq]
  · show (0 + 1) * 16 ≤ _
    omega
  · simp [h1]
  · simp [h1]
theorem ok_impl_CountTerm (t : Tm) : t.Ok → t.nodes < 4611686018427387904 → C_impl_CountTerm t (t.nodes : Int) := by
  induction t using Tm.ind with | h t ih =>
  intro ht hn
  refine via (w_impl_CountTerm t (· = (t.nodes : Int)) ?_)
  have hnn := nodes_eq t
  refine LOOP.up t.args.length (fun k => ((1 + Tm.nodesL (t.args.take k) : Nat) : Int)) (by have := ht.len; omega) (by simp [Tm.nodesL]) ?_
  intro k hk N hN
  try dsimp only
  refine ⟨fun h => ?_, fun h => ?_⟩
  · obtain ⟨u, hu⟩ := get_k h
    have h1 := nodesL_get hu
    have h3 := nodesL_snoc hu
    have h4 := nodesL_take_le t.args (k + 1)
    refine ⟨u, geti hu, _, ih u (List.mem_of_getElem? hu) (ht.get hu) (by omega), hN (lt_k h) _ ?_⟩
    show IntKind.i64.wrap (((1 + Tm.nodesL (t.args.take k) : Nat) : Int) + (u.nodes : Int)) = _
    rw [i64_wrap (by omega) (by omega)]
    omega
  · show ((1 + Tm.nodesL (t.args.take k) : Nat) : Int) = _
    rw [take_all (ge_k h), nodes_eq]
theorem ok_spec_l3Vars (t : Tm) : ∀ l : List Str, t.Ok → l.length + t.nodes < 68719476735 → C_spec_l3Vars t l (l ++ t.names) := by
  induction t using Tm.ind with | h t ih =>
  intro l ht hn
  refine via (w_spec_l3Vars t l (· = l ++ t.names) ?_)
  have hnn := nodes_eq t
  refine ⟨fun l' => l' = l ++ (if t.kind == 1 then [t.name] else []), ?_, fun h1 => ⟨?_, ?_⟩, fun h1 => ?_⟩
  · rintro l' rfl
    refine LOOP.up t.args.length (fun k => l ++ ((if t.kind == 1 then [t.name] else []) ++ Tm.namesL (t.args.take k))) (by have := ht.len; omega) (by simp [Tm.namesL]) ?_
    intro k hk N hN
    try dsimp only
    have hb1 : (l ++ ((if t.kind == 1 then [t.name] else []) ++ Tm.namesL (t.args.take k))).length ≤ l.length + 1 + Tm.nodesL (t.args.take k) := by
      have := namesL_len (t.args.take k)
      rw [List.length_append, List.length_append]
      split <;> simp <;> omega
    refine ⟨fun h => ?_, fun h => ?_⟩
    · obtain ⟨u, hu⟩ := get_k h
      have h1 := nodesL_get hu
      have h3 := nodesL_snoc hu
      have h4 := nodesL_take_le t.args (k + 1)
      refine ⟨u, geti hu, _, ih u (List.mem_of_getElem? hu) _ (ht.get hu) (by omega), hN (lt_k h) _ ?_⟩
      try simp only
      rw [namesL_snoc hu]
      simp only [List.append_assoc]
    · try simp only
      rw [take_all (ge_k h), names_eq]
  · show (l.length + 1) * 16 ≤ _
    omega
  · simp [h1]
  · simp [h1]
theorem ok_spec_IsGround (t : Tm) (ht : t.Ok) (hn : t.nodes < 68719476735) : C_spec_IsGround t (t.names.length == 0) := by
  refine via (w_spec_IsGround t (· = _) ?_)
  refine ⟨_, ok_spec_l3Vars t [] ht (by simpa using hn), ?_⟩
  simp only [List.nil_append]
  cases t.names with
  | nil => rfl
  | cons x xs =>
    simp
    omega

end Go.Proofs.Ytfhgjhchjekbgaa
set_option linter.unusedVariables false
set_option linter.unusedSimpArgs false
namespace Go.Proofs.Ytfhgjhchjekbgaa
open Go

/-- A name put in its place among others. -/
def insN (s : Str) : List Str → List Str
  | [] => [s]
  | x :: xs => if Op.bytesLess x s then x :: insN s xs else if x == s then x :: xs else s :: x :: xs
def posN (s : Str) : List Str → Nat
  | [] => 0
  | x :: xs => if Op.bytesLess x s then posN s xs + 1 else 0
/-- Names in order, each once. -/
def sortN (l : List Str) : List Str := l.foldl (fun o s => insN s o) []
theorem posN_le (s : Str) (l : List Str) : posN s l ≤ l.length := by
  induction l with
  | nil => exact Nat.le_refl _
  | cons x xs ih =>
    simp only [posN, List.length_cons]
    split <;> omega
theorem posN_step {s : Str} : ∀ {l : List Str} {k : Nat} {x : Str}, l[k]? = some x → k ≤ posN s l → (Op.bytesLess x s = true → k + 1 ≤ posN s l) ∧ (Op.bytesLess x s = false → posN s l = k)
  | [], k, x, h, _ => by simp at h
  | y :: l, 0, x, h, hk => by
    simp at h
    subst h
    constructor
    · intro h
      simp [posN, h]
    · intro h
      simp [posN, h]
  | y :: l, k + 1, x, h, hk => by
    simp only [posN] at hk ⊢
    split at hk
    · rename_i e
      obtain ⟨h1, h2⟩ := posN_step (s := s) (l := l) (k := k) (x := x) (by simpa using h) (by omega)
      simp only [e, if_true]
      exact ⟨fun h => by have := h1 h; omega, fun h => by have := h2 h; omega⟩
    · omega
theorem insN_pos (s : Str) (l : List Str) : insN s l = match l[posN s l]? with
    | some x => if x == s then l else l.take (posN s l) ++ s :: l.drop (posN s l)
    | none => l.take (posN s l) ++ s :: l.drop (posN s l) := by
  induction l with
  | nil => rfl
  | cons x xs ih =>
    by_cases h : Op.bytesLess x s = true
    · simp only [insN, posN, h, if_true, List.getElem?_cons_succ]
      rw [ih]
      split
      · split <;> simp
      · simp
    · have h' : Op.bytesLess x s = false := by simpa using h
      simp only [insN, posN, h', Bool.false_eq_true, if_false, List.getElem?_cons_zero]
      split <;> simp_all
theorem insN_len (s : Str) (l : List Str) : (insN s l).length ≤ l.length + 1 := by
  induction l with
  | nil => simp [insN]
  | cons x xs ih =>
    simp only [insN]
    split
    · simp only [List.length_cons]; omega
    · split <;> simp
theorem sortN_snoc {l : List Str} {k : Nat} {u : Str} (h : l[k]? = some u) : sortN (l.take (k + 1)) = insN u (sortN (l.take k)) := by
  rw [← take_snoc h]
  simp [sortN, List.foldl_append]
theorem foldN_len (l o : List Str) : (l.foldl (fun o s => insN s o) o).length ≤ o.length + l.length := by
  induction l generalizing o with
  | nil => simp
  | cons x l ih =>
    have h1 := ih (insN x o)
    have h2 := insN_len x o
    simp only [List.foldl_cons, List.length_cons]
    omega
theorem sortN_len (l : List Str) : (sortN l).length ≤ l.length := by
  have := foldN_len l []
  simpa [sortN] using this

theorem ok_spec_SortNames (l : List Str) (hl : l.length < 68719476735) : C_spec_SortNames l (sortN l) := by
  refine via (w_spec_SortNames l (· = sortN l) ?_)
  refine LOOP.up l.length (fun k => sortN (l.take k)) (by omega) rfl ?_
  intro k hk N hN
  try dsimp only
  have hlen := sortN_len (l.take k)
  have hlen2 := take_len l k
  refine ⟨fun h => ?_, fun h => ?_⟩
  · obtain ⟨u, hu⟩ := get_k h
    have hlt := lt_k h
    generalize ho : sortN (l.take k) = o at *
    have hle := posN_le u o
    have hnext : ∀ b', b' = insN u o → N (IntKind.i64.wrap ((k : Int) + (1 : Int)), b') := fun b' hb => hN hlt b' (by rw [hb, sortN_snoc hu, ho])
    have hins := insN_pos u o
    refine ⟨fun p => p = (posN u o : Int), ?_, ?_⟩
    · rintro _ rfl
      refine ⟨fun _ => insN u o = o.take (posN u o) ++ u :: o.drop (posN u o), ?_, fun h1 => ?_, fun h1 => ?_⟩
      · rintro _ hi
        refine ⟨⟨Int.le_refl _, by omega, by omega⟩, ?_, u, geti hu, ?_, ⟨by omega, by show (posN u o : Int) ≤ (o.length : Int); omega, Int.le_refl _⟩, ?_, hnext _ ?_⟩
        · simp only [Int.toNat_natCast, List.drop_zero, List.length_nil, List.length_take]
          exact bnd (by omega) (by decide)
        · simp only [Int.toNat_natCast, List.drop_zero, List.nil_append, List.length_take, List.length_singleton]
          exact bnd (by omega) (by decide)
        · simp only [Int.toNat_natCast, List.drop_zero, List.nil_append, List.length_take, List.length_singleton, List.length_append, List.length_drop]
          exact bnd (by omega) (by decide)
        · simp only [Int.toNat_natCast, List.drop_zero, List.nil_append, List.take_length]
          rw [hi]
          simp
      · obtain ⟨x, hx⟩ := get_k h1
        refine ⟨x, geti hx, u, geti hu, fun h2 => ?_, fun h2 => ?_⟩
        · refine hnext _ ?_
          rw [hins, hx]
          simp [h2]
        · rw [hins, hx]
          simp [h2]
      · have : o[posN u o]? = none := List.getElem?_eq_none (ge_k h1)
        rw [hins, this]
    · refine LOOP.up1 o.length (fun j => j ≤ posN u o) (by omega) (Nat.zero_le _) ?_
      intro j hj hP M hM
      try dsimp only
      refine ⟨fun h1 => ?_, fun h1 => ?_⟩
      · obtain ⟨x, hx⟩ := get_k h1
        obtain ⟨q1, q2⟩ := posN_step hx hP
        refine ⟨x, geti hx, u, geti hu, fun h2 => hM (lt_k h1) (q1 h2), fun h2 => ?_⟩
        show (j : Int) = _
        rw [q2 h2]
      · show (j : Int) = _
        have := ge_k h1
        omega
  · show sortN (l.take k) = sortN l
    rw [take_all (ge_k h)]
theorem ok_spec_VarsOfTerm (t : Tm) (ht : t.Ok) (hn : t.nodes < 68719476735) : C_spec_VarsOfTerm t (sortN t.names) := by
  refine via (w_spec_VarsOfTerm t (· = _) ?_)
  have := names_len t
  refine ⟨_, ok_spec_l3Vars t [] ht (by simpa using hn), _, ok_spec_SortNames _ (by simp only [List.nil_append]; omega), by simp⟩

theorem ok_spec_IndexOf (l : List Str) (s : Str) (hl : l.length < 68719476735) : ∃ r : Int, (decide (r ≥ (0 : Int)) = l.contains s) ∧ (decide (r < (0 : Int)) = !l.contains s) ∧ C_spec_IndexOf l s r := by
  have : ∃ r : Int, ((decide (r ≥ (0 : Int)) = l.contains s) ∧ (decide (r < (0 : Int)) = !l.contains s)) ∧ C_spec_IndexOf l s r := by
    refine w_spec_IndexOf l s _ ?_
    refine LOOP.up1 l.length (fun k => (l.take k).contains s = false) (by omega) (by simp) ?_
    intro k hk hP N hN
    try dsimp only
    refine ⟨fun h => ?_, fun h => ?_⟩
    · obtain ⟨u, hu⟩ := get_k h
      refine ⟨u, geti hu, fun h2 => ?_, fun h2 => hN (lt_k h) ?_⟩
      · have e : l.contains s = true := by
          rw [List.contains_iff_mem]
          have : u = s := by simpa using h2
          subst this
          exact List.mem_of_getElem? hu
        rw [e]
        constructor
        · simp
        · simp
      · rw [← take_snoc hu]
        have h3 : (s == u) = false := by
          have : ¬ u = s := by simpa using h2
          simp
          exact fun e => this e.symm
        simp only [List.contains_eq_any_beq, List.any_append, List.any_cons, List.any_nil, Bool.or_false] at hP ⊢
        rw [hP, h3]
        rfl
    · rw [take_all (ge_k h)] at hP
      rw [hP]
      exact ⟨by decide, by decide⟩
  obtain ⟨r, ⟨h1, h2⟩, h3⟩ := this
  exact ⟨r, h1, h2, h3⟩

/-! ### Restriction, composition -/

def restr (l : List Bd) (names : List Str) : List Bd := (sortN names).filterMap fun s => (bound l s).map fun t => ⟨s, t⟩
def comp (a b : List Bd) : List Bd := a.map (fun x => ⟨x.name, x.term.apply b⟩) ++ b.filter fun x => !(bound a x.name).isSome
theorem fm_snoc {α β : Type} {f : α → Option β} {xs : List α} {k : Nat} {u : α} (h : xs[k]? = some u) : (xs.take (k + 1)).filterMap f = (xs.take k).filterMap f ++ (f u).toList := by
  rw [← take_snoc h, List.filterMap_append]
  cases e : f u <;> simp [e]
theorem fl_snoc {α : Type} {f : α → Bool} {xs : List α} {k : Nat} {u : α} (h : xs[k]? = some u) : (xs.take (k + 1)).filter f = (xs.take k).filter f ++ (if f u then [u] else []) := by
  rw [← take_snoc h, List.filter_append]
  cases e : f u <;> simp [e]
theorem restr_loop {l : List Bd} {ns : List Str} {k : Nat} : ((ns.take k).filterMap fun s => (bound l s).map fun t => (⟨s, t⟩ : Bd)).length ≤ k := Nat.le_trans (List.length_filterMap_le _ _) (take_len ns k)

theorem ok_spec_RestrictSubst (l : List Bd) (ns : List Str) (hl : BOk l) (hn : ns.length < 68719476735) : C_spec_RestrictSubst l ns (restr l ns) := by
  refine via (w_spec_RestrictSubst l ns (· = restr l ns) ?_)
  refine ⟨_, ok_spec_SortNames ns hn, ?_⟩
  have hlen := sortN_len ns
  refine LOOP.up (sortN ns).length (fun k => ((sortN ns).take k).filterMap fun s => (bound l s).map fun t => ⟨s, t⟩) (by omega) (by simp) ?_
  intro k hk N hN
  try dsimp only
  refine ⟨fun h => ?_, fun h => ?_⟩
  · obtain ⟨u, hu⟩ := get_k h
    have hlt := lt_k h
    refine ⟨u, geti hu, _, ok_spec_FindBind l u hl, fun h2 => ⟨u, geti hu, bnd (by have := restr_loop (l := l) (ns := sortN ns) (k := k); show _ + 1 ≤ _; omega) (by decide), hN hlt _ ?_⟩, fun h2 => hN hlt _ ?_⟩
    · rw [fm_snoc hu, boundT_some h2]
      rfl
    · rw [fm_snoc hu, bound_none h2]
      simp
  · try simp only
    rw [take_all (ge_k h)]
    rfl
theorem comp_ok {a b : List Bd} (ha : BOk a) (hb : BOk b) (hab : a.length + b.length < 68719476735) : True := trivial
theorem ok_spec_ComposeSubst (a b : List Bd) (ha : BOk a) (hb : BOk b) (hab : a.length + b.length < 68719476735) : C_spec_ComposeSubst a b (comp a b) := by
  refine via (w_spec_ComposeSubst a b (· = comp a b) ?_)
  refine LOOP.up a.length (fun k => (a.take k).map fun x => ⟨x.name, x.term.apply b⟩) (by omega) (by simp) ?_
  intro k hk N hN
  try dsimp only
  refine ⟨fun h => ?_, fun h => ?_⟩
  · obtain ⟨u, hu⟩ := get_k h
    have hlt := lt_k h
    exact ⟨u, geti hu, u, geti hu, _, ok_spec_ApplySubst b hb _ (ha.tm u (List.mem_of_getElem? hu)), bnd (by have := take_len a k; simp only [List.length_map, List.length_singleton]; omega) (by decide), hN hlt _ (take_snocm (f := fun x : Bd => (⟨x.name, x.term.apply b⟩ : Bd)) hu)⟩
  · try simp only
    rw [take_all (ge_k h)]
    refine LOOP.up b.length (fun j => a.map (fun x => ⟨x.name, x.term.apply b⟩) ++ (b.take j).filter fun x => !(bound a x.name).isSome) (by omega) (by simp) ?_
    intro j hj M hM
    try dsimp only
    refine ⟨fun h1 => ?_, fun h1 => ?_⟩
    · obtain ⟨u, hu⟩ := get_k h1
      have hlt := lt_k h1
      refine ⟨u, geti hu, _, ok_spec_l7At a u.name ha.len, fun h2 => ⟨u, geti hu, u, geti hu, u.term, ok_spec_l3Copy _ (hb.tm u (List.mem_of_getElem? hu)), bnd ?_ (by decide), hM hlt _ ?_⟩, fun h2 => hM hlt _ ?_⟩
      · have h3 := List.length_filter_le (fun x : Bd => !(bound a x.name).isSome) (b.take j)
        have h4 := take_len b j
        simp only [List.length_append, List.length_map, List.length_singleton]
        omega
      · rw [fl_snoc hu, atI_none h2]
        simp
      · obtain ⟨q, z, h3, h4, h5⟩ := atI_some h2
        rw [fl_snoc hu, h5]
        simp
    · try simp only
      rw [take_all (ge_k h1)]
      rfl
theorem ok_impl_ComposeSubst (a b : List Bd) (ha : BOk a) (hb : BOk b) (hab : a.length + b.length < 68719476735) : C_impl_ComposeSubst a b (comp a b) := by
  refine via (w_impl_ComposeSubst a b (· = comp a b) ?_)
  refine LOOP.up a.length (fun k => (a.take k).map fun x => ⟨x.name, x.term.apply b⟩) (by omega) (by simp) ?_
  intro k hk N hN
  try dsimp only
  refine ⟨fun h => ?_, fun h => ?_⟩
  · obtain ⟨u, hu⟩ := get_k h
    have hlt := lt_k h
    exact ⟨u, geti hu, _, ok_impl_ApplySubst b hb _ (ha.tm u (List.mem_of_getElem? hu)), bnd (by have := take_len a k; simp only [List.length_map, List.length_singleton]; omega) (by decide), hN hlt _ (take_snocm (f := fun x : Bd => (⟨x.name, x.term.apply b⟩ : Bd)) hu)⟩
  · try simp only
    rw [take_all (ge_k h)]
    refine LOOP.up b.length (fun j => a.map (fun x => ⟨x.name, x.term.apply b⟩) ++ (b.take j).filter fun x => !(bound a x.name).isSome) (by omega) (by simp) ?_
    intro j hj M hM
    try dsimp only
    refine ⟨fun h1 => ?_, fun h1 => ?_⟩
    · obtain ⟨u, hu⟩ := get_k h1
      have hlt := lt_k h1
      refine ⟨u, geti hu, _, ok_impl_bound a u.name ha.len, fun h2 => ⟨u, ok_impl_copyBind _ (hb.tm u (List.mem_of_getElem? hu)), bnd ?_ (by decide), hM hlt _ ?_⟩, fun h2 => hM hlt _ ?_⟩
      · have h3 := List.length_filter_le (fun x : Bd => !(bound a x.name).isSome) (b.take j)
        have h4 := take_len b j
        simp only [List.length_append, List.length_map, List.length_singleton]
        omega
      · rw [fl_snoc hu]
        simp only [h2, if_true, List.append_assoc]
      · rw [fl_snoc hu]
        simp only [h2, Bool.false_eq_true, if_false, List.append_nil]
    · try simp only
      rw [take_all (ge_k h1)]
      rfl

end Go.Proofs.Ytfhgjhchjekbgaa
set_option linter.unusedVariables false
set_option linter.unusedSimpArgs false
namespace Go.Proofs.Ytfhgjhchjekbgaa
open Go

mutual
theorem mt_all0 (A : Tm → Prop) (S : Str → Prop) (hA : ∀ t, A t → S t.name ∧ ∀ u ∈ t.args, A u) : ∀ (p t : Tm) (l : List Bd), A p → A t → (∀ b ∈ l, A b.term ∧ S b.name) → ∀ b ∈ (p.mt t l).1, A b.term ∧ S b.name
  | .mk k n s a, t, l, hp, ht, hl => by
    have ih := mtL_all0 A S hA a t.args l (hA _ hp).2 (hA _ ht).2 hl
    simp only [Tm.mt]
    split
    · split
      · exact hl
      · intro b hb
        rcases List.mem_append.1 hb with h | h
        · exact hl b h
        · simp only [List.mem_singleton] at h
          subst h
          exact ⟨ht, (hA _ hp).1⟩
    · split
      · exact ih
      · intro b hb
        cases hb
theorem mtL_all0 (A : Tm → Prop) (S : Str → Prop) (hA : ∀ t, A t → S t.name ∧ ∀ u ∈ t.args, A u) : ∀ (ps ts : List Tm) (l : List Bd), (∀ p ∈ ps, A p) → (∀ t ∈ ts, A t) → (∀ b ∈ l, A b.term ∧ S b.name) → ∀ b ∈ (Tm.mtL ps ts l).1, A b.term ∧ S b.name
  | [], _, l, _, _, hl => by simpa [Tm.mtL] using hl
  | p :: ps, [], l, _, _, hl => by
    intro b hb
    simp [Tm.mtL] at hb
  | p :: ps, t :: ts, l, hp, ht, hl => by
    have h1 := mt_all0 A S hA p t l (hp p (by simp)) (ht t (by simp)) hl
    simp only [Tm.mtL]
    split
    · rename_i l' e
      rw [e] at h1
      exact mtL_all0 A S hA ps ts l' (fun u hu => hp u (by simp [hu])) (fun u hu => ht u (by simp [hu])) h1
    · intro b hb
      cases hb
end
theorem mt_bok {p t : Tm} {l : List Bd} (hp : p.Ok) (ht : t.Ok) (hl : BOk l) (hs : l.length + p.size < 68719476735) : BOk (p.mt t l).1 := by
  have h := mt_all0 Tm.Ok (fun s => s.length < 68719476735) (fun t h => ⟨h.name, h.args⟩) p t l hp ht (fun b hb => ⟨hl.tm b hb, hl.nm b hb⟩)
  exact ⟨by have := Tm.mt_len p t l; omega, fun b hb => (h b hb).1, fun b hb => (h b hb).2⟩
theorem ok_impl_match (p : Tm) : ∀ (t : Tm) (l : List Bd), p.Ok → t.Ok → BOk l → l.length + p.size < 68719476735 → C_impl_match p t l (p.mt t l) := by
  induction p using Tm.ind with | h p ih =>
  intro t l hp ht hl hs
  refine via (w_impl_match p t l (· = p.mt t l) ?_)
  have hps := p.size_eq
  refine ⟨fun h1 => ⟨_, ok_impl_bound l p.name hl.len, fun h2 => ⟨_, ok_impl_EqualTerm _ t (hl.bound _), ?_⟩, fun h2 => ⟨bnd ?_ (by decide), ?_⟩⟩, fun h1 => ?_⟩
  · rw [mt_some h1 (boundT_some h2)]
  · have := p.size_pos
    show l.length + 1 ≤ _
    omega
  · rw [mt_none h1 (bound_none h2)]
  · rw [mt_else h1]
    refine ⟨fun h3 => ?_, fun h3 => ⟨fun h4 => ?_, fun h4 => ⟨fun h5 => ?_, fun h5 => ⟨fun h6 => ?_, fun h6 => ?_⟩⟩⟩⟩
    · have e : (p.kind == t.kind) = false := by simpa using h3
      simp [e]
    · have e : (p.n == t.n) = false := by simpa using h4
      simp [e]
    · have e : (p.name == t.name) = false := by simpa using h5
      simp [e]
    · have e : (p.args.length == t.args.length) = false := by simpa using len_ne h6
      simp [e]
    · have e3 : (p.kind == t.kind) = true := by simpa using h3
      have e4 : (p.n == t.n) = true := by simpa using h4
      have e5 : (p.name == t.name) = true := by simpa using h5
      have e6 := len_eq h6
      have e7 : (p.args.length == t.args.length) = true := by simpa using e6
      rw [e3, e4, e5, e7]
      simp only [Bool.and_true, if_true]
      refine LOOP.upP p.args.length (fun k li => Tm.mtL p.args t.args l = Tm.mtL (p.args.drop k) (t.args.drop k) li ∧ BOk li ∧ li.length + Tm.sizeL (p.args.drop k) < 68719476735) (by have := hp.len; omega) ⟨rfl, hl, by simp; omega⟩ ?_
      rintro k hk li ⟨q1, q2, q3⟩ N hN
      try dsimp only
      refine ⟨fun h => ?_, fun h => ?_⟩
      · obtain ⟨a, ha⟩ := get_k h
        have hlt := lt_k h
        obtain ⟨b, hb⟩ : ∃ b, t.args[k]? = some b := get_lt (by omega)
        have hst := mtL_step (l := li) ha hb
        have hz := Tm.sizeL_drop ha
        have hml := Tm.mt_len a b li
        refine ⟨a, geti ha, b, geti hb, _, ih a (List.mem_of_getElem? ha) b li (hp.get ha) (ht.get hb) q2 (by omega), fun h7 => ?_, fun h7 => hN hlt _ ⟨?_, ?_, by omega⟩⟩
        · have e : (a.mt b li).2 = false := by simpa using h7
          have e2 : a.mt b li = ((a.mt b li).1, false) := by rw [← e]
          rw [e2] at hst
          rw [q1, hst]
        · have e : (a.mt b li).2 = true := by simpa using h7
          have e2 : a.mt b li = ((a.mt b li).1, true) := by rw [← e]
          rw [e2] at hst
          rw [q1, hst]
        · exact mt_bok (hp.get ha) (ht.get hb) q2 (by omega)
      · rw [q1, drop_all (ge_k h)]
        simp [Tm.mtL]

/-! ### Matches by the reference: the same, but what it leaves where there is none -/

theorem ok_spec_l8Match (p : Tm) : ∀ (t : Tm) (l : List Bd), p.Ok → t.Ok → BOk l → l.length + p.size < 68719476735 → ∃ r : List Bd × Bool, (r.2 = (p.mt t l).2 ∧ (r.2 = true → r.1 = (p.mt t l).1)) ∧ C_spec_l8Match p t l r := by
  induction p using Tm.ind with | h p ih =>
  intro t l hp ht hl hs
  refine w_spec_l8Match p t l _ ?_
  have hps := p.size_eq
  refine ⟨fun h1 => ⟨_, ok_spec_FindBind l p.name hl, fun h2 => ⟨_, ok_spec_EqualTerm _ t (hl.bound _), ?_⟩, fun h2 => ⟨t, ok_spec_l3Copy t ht, bnd ?_ (by decide), ?_⟩⟩, fun h1 => ?_⟩
  · rw [mt_some h1 (boundT_some h2)]
    exact ⟨rfl, fun _ => rfl⟩
  · have := p.size_pos
    show l.length + 1 ≤ _
    omega
  · rw [mt_none h1 (bound_none h2)]
    exact ⟨rfl, fun _ => rfl⟩
  · rw [mt_else h1]
    refine ⟨fun h3 => ?_, fun h3 => ⟨fun h4 => ?_, fun h4 => ⟨fun h5 => ?_, fun h5 => ⟨fun h6 => ?_, fun h6 => ?_⟩⟩⟩⟩
    · have e : (p.kind == t.kind) = false := by simpa using h3
      simp [e]
    · have e : (p.n == t.n) = false := by simpa using h4
      simp [e]
    · have e : (p.name == t.name) = false := by simpa using h5
      simp [e]
    · have e : (p.args.length == t.args.length) = false := by simpa using len_ne h6
      simp [e]
    · have e3 : (p.kind == t.kind) = true := by simpa using h3
      have e4 : (p.n == t.n) = true := by simpa using h4
      have e5 : (p.name == t.name) = true := by simpa using h5
      have e6 := len_eq h6
      have e7 : (p.args.length == t.args.length) = true := by simpa using e6
      rw [e3, e4, e5, e7]
      simp only [Bool.and_true, if_true]
      refine LOOP.upP p.args.length (fun k li => Tm.mtL p.args t.args l = Tm.mtL (p.args.drop k) (t.args.drop k) li ∧ BOk li ∧ li.length + Tm.sizeL (p.args.drop k) < 68719476735) (by have := hp.len; omega) ⟨rfl, hl, by simp; omega⟩ ?_
      rintro k hk li ⟨q1, q2, q3⟩ N hN
      try dsimp only
      refine ⟨fun h => ?_, fun h => ?_⟩
      · obtain ⟨a, ha⟩ := get_k h
        have hlt := lt_k h
        obtain ⟨b, hb⟩ : ∃ b, t.args[k]? = some b := get_lt (by omega)
        have hst := mtL_step (l := li) ha hb
        have hz := Tm.sizeL_drop ha
        have hml := Tm.mt_len a b li
        obtain ⟨r, ⟨g1, g2⟩, g3⟩ := ih a (List.mem_of_getElem? ha) b li (hp.get ha) (ht.get hb) q2 (by omega)
        refine ⟨a, geti ha, b, geti hb, r, g3, fun h7 => hN hlt _ ?_, fun h7 => ?_⟩
        · rw [g2 h7]
          rw [g1] at h7
          have e2 : a.mt b li = ((a.mt b li).1, true) := by rw [← h7]
          rw [e2] at hst
          exact ⟨by rw [q1, hst], mt_bok (hp.get ha) (ht.get hb) q2 (by omega), by omega⟩
        · rw [g1] at h7
          have e2 : a.mt b li = ((a.mt b li).1, false) := by rw [← h7]
          rw [e2] at hst
          rw [q1, hst]
          exact ⟨rfl, by simp⟩
      · rw [q1, drop_all (ge_k h)]
        simp [Tm.mtL]

end Go.Proofs.Ytfhgjhchjekbgaa
set_option linter.unusedVariables false
set_option linter.unusedSimpArgs false
namespace Go.Proofs.Ytfhgjhchjekbgaa
open Go

/-- The cursor stands within its bytes, and these are not too many. -/
structure CurOK (c : T_spec_l1Cur) : Prop where
  mk ::
  len : c.b.length ≤ 1048576
  lo : 0 ≤ c.i
  hi : c.i ≤ c.b.length

theorem and255 (a : Int) : 0 ≤ IntKind.i64.wrap (((BitVec.ofInt IntKind.i64.bits a &&& BitVec.ofInt IntKind.i64.bits (255 : Int)).toNat : Int)) ∧ IntKind.i64.wrap (((BitVec.ofInt IntKind.i64.bits a &&& BitVec.ofInt IntKind.i64.bits (255 : Int)).toNat : Int)) ≤ 255 := by
  have h : (BitVec.ofInt IntKind.i64.bits a &&& BitVec.ofInt IntKind.i64.bits (255 : Int)).toNat ≤ 255 := by
    rw [BitVec.toNat_and]
    exact Nat.le_trans Nat.and_le_right (by decide)
  rw [i64_wrap (by omega) (by omega)]
  omega

theorem dr_l1New (code : List Int) (h : code.length ≤ 1048576) : ∃ c, CurOK c ∧ C_spec_l1New code c := by
  refine w_spec_l1New code _ ?_
  refine LOOP.upP code.length (fun _ _ => True) (by omega) trivial ?_
  intro k hk b _ N hN
  have fin : CurOK (T_spec_l1Cur.mk code (0 : Int) b) := ⟨h, Int.le_refl _, by simp⟩
  refine ⟨fun h1 => ⟨fun h2 => ?_, fun h2 => fin⟩, fun h1 => fin⟩
  obtain ⟨u, hu⟩ := get_k h1
  exact ⟨u, geti hu, hN (lt_k h1) _ trivial⟩
theorem dr_l1Byte (c : T_spec_l1Cur) (h : CurOK c) : ∃ r : Int × T_spec_l1Cur, (0 ≤ r.1 ∧ r.1 ≤ 255 ∧ CurOK r.2) ∧ C_spec_l1Byte c r := by
  refine w_spec_l1Byte c _ ?_
  have := h.lo
  have := h.hi
  have := h.len
  refine ⟨fun h1 => ?_, fun h1 => ⟨(and255 _).1, (and255 _).2, h.len, h.lo, h.hi⟩⟩
  have h2 := of_decide_eq_true h1
  obtain ⟨u, hu⟩ : ∃ u, c.b[c.i.toNat]? = some u := get_lt (by omega)
  refine ⟨u, ⟨h.lo, hu⟩, (and255 _).1, (and255 _).2, h.len, ?_, ?_⟩
  · show 0 ≤ IntKind.i64.wrap (c.i + 1)
    rw [i64_wrap (by omega) (by omega)]
    omega
  · show IntKind.i64.wrap (c.i + 1) ≤ _
    rw [i64_wrap (by omega) (by omega)]
    show c.i + 1 ≤ (c.b.length : Int)
    omega
theorem tmod_rng {a n : Int} (ha : 0 ≤ a) (hn : 0 < n) : 0 ≤ a.tmod n ∧ a.tmod n < n := ⟨Int.tmod_nonneg _ ha, Int.tmod_lt_of_pos _ hn⟩
theorem dr_l1Below (c : T_spec_l1Cur) (n : Int) (h : CurOK c) : ∃ r : Int × T_spec_l1Cur, (0 ≤ r.1 ∧ (r.1 < n ∨ r.1 = 0) ∧ CurOK r.2) ∧ C_spec_l1Below c n r := by
  refine w_spec_l1Below c n _ ?_
  refine ⟨fun h1 => ⟨Int.le_refl _, .inr rfl, h⟩, fun h1 => ?_⟩
  have hn : 0 < n := by have := of_decide_eq_false h1; omega
  refine ⟨fun h2 => ?_, fun h2 => ?_⟩
  · obtain ⟨r, ⟨q1, q2, q3⟩, q4⟩ := dr_l1Byte c h
    exact ⟨r, q4, by omega, (tmod_rng q1 hn).1, .inl (tmod_rng q1 hn).2, q3⟩
  · obtain ⟨r1, ⟨a1, a2, a3⟩, a4⟩ := dr_l1Byte c h
    obtain ⟨r2, ⟨b1, b2, b3⟩, b4⟩ := dr_l1Byte r1.2 a3
    obtain ⟨r3, ⟨c1, c2, c3⟩, c4⟩ := dr_l1Byte r2.2 b3
    obtain ⟨r4, ⟨d1, d2, d3⟩, d4⟩ := dr_l1Byte r3.2 c3
    refine ⟨r1, a4, r2, b4, r3, c4, r4, d4, by omega, ?_⟩
    have e : IntKind.i64.wrap (IntKind.i64.wrap (IntKind.i64.wrap (IntKind.i64.wrap (r1.1 * 16777216) + IntKind.i64.wrap (r2.1 * 65536)) + IntKind.i64.wrap (r3.1 * 256)) + r4.1) = r1.1 * 16777216 + r2.1 * 65536 + r3.1 * 256 + r4.1 := by
      rw [i64_wrap (n := r1.1 * 16777216) (by omega) (by omega), i64_wrap (n := r2.1 * 65536) (by omega) (by omega), i64_wrap (n := r3.1 * 256) (by omega) (by omega), i64_wrap (n := r1.1 * 16777216 + r2.1 * 65536) (by omega) (by omega), i64_wrap (n := r1.1 * 16777216 + r2.1 * 65536 + r3.1 * 256) (by omega) (by omega), i64_wrap (by omega) (by omega)]
    rw [e]
    exact ⟨(tmod_rng (by omega) hn).1, .inl (tmod_rng (by omega) hn).2, d3⟩
/-- A number below n, n above 0. -/
theorem dr_below (c : T_spec_l1Cur) (n : Int) (h : CurOK c) (hn : 0 < n) : ∃ r : Int × T_spec_l1Cur, (0 ≤ r.1 ∧ r.1 < n ∧ CurOK r.2) ∧ C_spec_l1Below c n r := by
  obtain ⟨r, ⟨h1, h2, h3⟩, h4⟩ := dr_l1Below c n h
  exact ⟨r, ⟨h1, by omega, h3⟩, h4⟩
theorem dr_l1Once (c : T_spec_l1Cur) (n : Int) (h : CurOK c) : ∃ r : Bool × T_spec_l1Cur, CurOK r.2 ∧ C_spec_l1Once c n r := by
  refine w_spec_l1Once c n _ ?_
  obtain ⟨r, ⟨_, _, h3⟩, h4⟩ := dr_l1Below c n h
  exact ⟨r, h4, h3⟩
theorem dr_l1Pick (c : T_spec_l1Cur) (l : List Str) (h : CurOK c) (hl : 0 < l.length) : ∃ r : Str × T_spec_l1Cur, (r.1 ∈ l ∧ CurOK r.2) ∧ C_spec_l1Pick c l r := by
  refine w_spec_l1Pick c l _ ?_
  obtain ⟨r, ⟨h1, h2, h3⟩, h4⟩ := dr_below c (l.length : Int) h (by omega)
  obtain ⟨u, hu⟩ : ∃ u, l[r.1.toNat]? = some u := get_lt (by omega)
  exact ⟨r, h4, u, ⟨h1, hu⟩, List.mem_of_getElem? hu, h3⟩
theorem dr_l1PickInt (c : T_spec_l1Cur) (l : List Int) (h : CurOK c) (hl : 0 < l.length) : ∃ r : Int × T_spec_l1Cur, (r.1 ∈ l ∧ CurOK r.2) ∧ C_spec_l1PickInt c l r := by
  refine w_spec_l1PickInt c l _ ?_
  obtain ⟨r, ⟨h1, h2, h3⟩, h4⟩ := dr_below c (l.length : Int) h (by omega)
  obtain ⟨u, hu⟩ : ∃ u, l[r.1.toNat]? = some u := get_lt (by omega)
  exact ⟨r, h4, u, ⟨h1, hu⟩, List.mem_of_getElem? hu, h3⟩

theorem ok_spec_l3Var (s : Str) : C_spec_l3Var s (.mk 1 0 s []) := via (w_spec_l3Var s (· = _) rfl)
theorem ok_spec_l3Word (n : Int) : C_spec_l3Word n (.mk 3 n [] []) := via (w_spec_l3Word n (· = _) rfl)
theorem ok_spec_l3App (s : Str) (a : List Tm) : C_spec_l3App s a (.mk 2 0 s a) := via (w_spec_l3App s a (· = _) rfl)
theorem ok_spec_l3One (s : Str) (a : Tm) : C_spec_l3One s a (.mk 2 0 s [a]) := via (w_spec_l3One s a (· = _) ⟨_, ok_spec_l3App s [a], rfl⟩)
theorem ok_spec_l3Pair (s : Str) (a b : Tm) : C_spec_l3Pair s a b (.mk 2 0 s [a, b]) := via (w_spec_l3Pair s a b (· = _) ⟨_, ok_spec_l3App s [a, b], rfl⟩)

/-- All names in a term have at most B bytes. -/
inductive Tm.Nm (B : Nat) : Tm → Prop where
  | mk (t : Tm) (hn : t.name.length ≤ B) (ha : ∀ u ∈ t.args, u.Nm B) : Tm.Nm B t
theorem Tm.Nm.name {B : Nat} {t : Tm} (h : t.Nm B) : t.name.length ≤ B := by cases h; assumption
theorem Tm.Nm.args {B : Nat} {t : Tm} (h : t.Nm B) : ∀ u ∈ t.args, u.Nm B := by cases h; assumption
theorem Tm.Nm.mono {B B' : Nat} (hB : B ≤ B') (t : Tm) : t.Nm B → t.Nm B' := by
  induction t using Tm.ind with | h t ih =>
  intro h
  exact .mk t (Nat.le_trans h.name hB) fun u hu => ih u hu (h.args u hu)
theorem Tm.Nm.size {B : Nat} (t : Tm) : t.Nm B → t.size ≤ (B + 1) * t.nodes := by
  induction t using Tm.ind with | h t ih =>
  intro h
  have key : ∀ ts : List Tm, (∀ u ∈ ts, u.size ≤ (B + 1) * u.nodes) → Tm.sizeL ts ≤ (B + 1) * Tm.nodesL ts := by
    intro ts
    induction ts with
    | nil => intro _; simp [Tm.sizeL]
    | cons a ts ih2 =>
      intro h2
      have h3 := h2 a (by simp)
      have h4 := ih2 fun u hu => h2 u (by simp [hu])
      simp only [Tm.sizeL, Tm.nodesL, Nat.mul_add]
      omega
  have := key t.args fun u hu => ih u hu (h.args u hu)
  rw [Tm.size_eq, nodes_eq, Nat.mul_add]
  have := h.name
  omega
/-- A small term: few nodes, short names. -/
structure Sm (B n : Nat) (t : Tm) : Prop where
  mk ::
  nodes : t.nodes ≤ n
  nm : t.Nm B
abbrev Small (n : Nat) (t : Tm) : Prop := Sm 15 n t
theorem sm_ok {B : Nat} (hB : B < 68719476735) (t : Tm) : t.nodes < 68719476735 → t.Nm B → t.Ok := by
  induction t using Tm.ind with | h t ih =>
  intro h1 h2
  have h3 := nodesL_len t.args
  have h4 := nodes_eq t
  refine .mk t (by omega) (by have := h2.name; omega) fun u hu => ih u hu ?_ (h2.args u hu)
  obtain ⟨i, hi⟩ := List.mem_iff_getElem?.1 hu
  have := nodesL_get hi
  omega
theorem Sm.ok {B n : Nat} {t : Tm} (h : Sm B n t) (hB : B < 68719476735) (hn : n < 68719476735) : t.Ok := sm_ok hB t (by have := h.nodes; omega) h.nm
theorem Sm.size {B n : Nat} {t : Tm} (h : Sm B n t) : t.size ≤ (B + 1) * n := Nat.le_trans (Tm.Nm.size t h.nm) (Nat.mul_le_mul_left _ h.nodes)
theorem Sm.mono {B n m : Nat} {t : Tm} (h : Sm B n t) (hm : n ≤ m) : Sm B m t := ⟨by have := h.nodes; omega, h.nm⟩
theorem Sm.wide {B B' n : Nat} {t : Tm} (h : Sm B n t) (hm : B ≤ B') : Sm B' n t := ⟨h.nodes, h.nm.mono hm⟩
theorem small_leaf (k n : Int) (s : Str) (hs : s.length ≤ 15) : Small 1 (.mk k n s []) :=
  ⟨by simp [Tm.nodes, Tm.nodesL], .mk _ (by simpa only [Tm.mk_name] using hs) (by simp [Tm.args])⟩
theorem small_one {n : Nat} {t : Tm} (k m : Int) (s : Str) (hs : s.length ≤ 15) (h : Small n t) : Small (n + 1) (.mk k m s [t]) :=
  ⟨by have := h.nodes; simp [Tm.nodes, Tm.nodesL]; omega, .mk _ (by simpa only [Tm.mk_name] using hs) (by simp only [Tm.mk_args, List.mem_singleton]; rintro u rfl; exact h.nm)⟩
theorem small_two {n m : Nat} {t u : Tm} (k z : Int) (s : Str) (hs : s.length ≤ 15) (h : Small n t) (h' : Small m u) : Small (n + m + 1) (.mk k z s [t, u]) :=
  ⟨by have := h.nodes; have := h'.nodes; simp [Tm.nodes, Tm.nodesL]; omega, .mk _ (by simpa only [Tm.mk_name] using hs) (by
    simp only [Tm.mk_args, List.mem_cons, List.not_mem_nil, or_false]
    rintro v (rfl | rfl)
    · exact h.nm
    · exact h'.nm)⟩

/-- A term as it should be: only applications have arguments and only they have no number. -/
inductive Tm.Wf : Tm → Prop where
  | mk (t : Tm) (h1 : t.kind ≠ 2 → t.args = []) (h2 : t.kind = 2 → t.n = 0) (ha : ∀ u ∈ t.args, u.Wf) : Tm.Wf t
theorem Tm.Wf.leaf {t : Tm} (h : t.Wf) : t.kind ≠ 2 → t.args = [] := by cases h; assumption
theorem Tm.Wf.app {t : Tm} (h : t.Wf) : t.kind = 2 → t.n = 0 := by cases h; assumption
theorem Tm.Wf.args {t : Tm} (h : t.Wf) : ∀ u ∈ t.args, u.Wf := by cases h; assumption
structure SmallW (n : Nat) (t : Tm) : Prop where
  mk ::
  sm : Small n t
  wf : t.Wf
theorem SmallW.mono {n m : Nat} {t : Tm} (h : SmallW n t) (hm : n ≤ m) : SmallW m t := ⟨h.sm.mono hm, h.wf⟩
theorem smallw_leaf (k n : Int) (s : Str) (hs : s.length ≤ 15) (h : k = 2 → n = 0) : SmallW 1 (.mk k n s []) :=
  ⟨small_leaf k n s hs, .mk _ (fun _ => rfl) h (by simp [Tm.args])⟩
theorem smallw_one {n : Nat} {t : Tm} (s : Str) (hs : s.length ≤ 15) (h : SmallW n t) : SmallW (n + 1) (.mk 2 0 s [t]) :=
  ⟨small_one 2 0 s hs h.sm, .mk _ (fun h => absurd rfl h) (fun _ => rfl) (by simp only [Tm.mk_args, List.mem_singleton]; rintro u rfl; exact h.wf)⟩
theorem smallw_two {n m : Nat} {t u : Tm} (s : Str) (hs : s.length ≤ 15) (h : SmallW n t) (h' : SmallW m u) : SmallW (n + m + 1) (.mk 2 0 s [t, u]) :=
  ⟨small_two 2 0 s hs h.sm h'.sm, .mk _ (fun h => absurd rfl h) (fun _ => rfl) (by
    simp only [Tm.mk_args, List.mem_cons, List.not_mem_nil, or_false]
    rintro v (rfl | rfl)
    · exact h.wf
    · exact h'.wf)⟩

/-- A short text out of some. -/
theorem dr_pick (c : T_spec_l1Cur) (l : List Str) (h : CurOK c) (hl : 0 < l.length) (hs : ∀ x ∈ l, x.length ≤ 15) : ∃ r : Str × T_spec_l1Cur, (r.1.length ≤ 15 ∧ CurOK r.2) ∧ C_spec_l1Pick c l r := by
  obtain ⟨r, ⟨h1, h2⟩, h3⟩ := dr_l1Pick c l h hl
  exact ⟨r, ⟨hs _ h1, h2⟩, h3⟩

theorem dr_l3Draw : ∀ (n : Nat) (c : T_spec_l1Cur) (depth : Int) (g : Bool), CurOK c → depth.toNat ≤ n + 1 → depth ≤ 1000 → -1000 ≤ depth → ∃ r : Tm × T_spec_l1Cur, (SmallW (2 ^ (n + 1) - 1) r.1 ∧ CurOK r.2) ∧ C_spec_l3Draw c depth g r := by
  intro n
  induction n with
  | zero =>
    intro c depth g hc hd h1 h2
    refine w_spec_l3Draw c depth g _ ?_
    refine ⟨fun x => x.1 = true ∧ CurOK x.2, ?_, fun _ => ⟨rfl, hc⟩, fun h => ?_⟩
    · rintro ⟨b, c1⟩ ⟨hb, hc1⟩
      simp only at hb hc1
      subst hb
      refine ⟨fun _ => ⟨fun c2 => CurOK c2, ?_, fun h3 => ?_, fun h3 => hc1⟩, fun h => by cases h⟩
      · intro c2 hc2
        obtain ⟨r, q1, q2⟩ := dr_l1Once c2 2 hc2
        refine ⟨r, q2, fun _ => ?_, fun _ => ?_⟩
        · obtain ⟨x, ⟨_, _, q3⟩, q4⟩ := dr_below r.2 4 q1 (by decide)
          exact ⟨x, q4, _, ok_spec_l3Word _, smallw_leaf 3 _ [] (by decide) (fun h => absurd h (by decide)), q3⟩
        · obtain ⟨x, ⟨q3, q5⟩, q4⟩ := dr_pick r.2 ([([97] : Str), ([98] : Str)] : List Str) q1 (by decide) (by decide)
          exact ⟨x, q4, _, ok_spec_l3App _ _, smallw_leaf _ _ _ q3 (by decide), q5⟩
      · obtain ⟨r, q1, q2⟩ := dr_l1Once c1 2 hc1
        refine ⟨r, q2, fun _ => ?_, fun _ => q1⟩
        obtain ⟨x, ⟨q3, q5⟩, q4⟩ := dr_pick r.2 ([([88] : Str), ([89] : Str), ([90] : Str)] : List Str) q1 (by decide) (by decide)
        exact ⟨x, q4, _, ok_spec_l3Var _, smallw_leaf _ _ _ q3 (by decide), q5⟩
    · have := of_decide_eq_false h
      omega
  | succ n ih =>
    intro c depth g hc hd h1 h2
    refine w_spec_l3Draw c depth g _ ?_
    have hp : 2 ^ (n + 1 + 1) = 2 ^ (n + 1) + 2 ^ (n + 1) := by rw [Nat.pow_succ]; omega
    have hp1 : 2 ≤ 2 ^ (n + 1) := Nat.le_self_pow (by omega) 2
    refine ⟨fun x => CurOK x.2 ∧ (x.1 = false → 2 ≤ depth), ?_, fun _ => ⟨hc, by simp⟩, fun h => ?_⟩
    · rintro ⟨b, c1⟩ ⟨hc1, hb⟩
      simp only at hb hc1
      refine ⟨fun _ => ⟨fun c2 => CurOK c2, ?_, fun h3 => ?_, fun h3 => hc1⟩, fun h => ?_⟩
      · intro c2 hc2
        obtain ⟨r, q1, q2⟩ := dr_l1Once c2 2 hc2
        refine ⟨r, q2, fun _ => ?_, fun _ => ?_⟩
        · obtain ⟨x, ⟨_, _, q3⟩, q4⟩ := dr_below r.2 4 q1 (by decide)
          exact ⟨x, q4, _, ok_spec_l3Word _, (smallw_leaf 3 _ [] (by decide) (fun h => absurd h (by decide))).mono (by omega), q3⟩
        · obtain ⟨x, ⟨q3, q5⟩, q4⟩ := dr_pick r.2 ([([97] : Str), ([98] : Str)] : List Str) q1 (by decide) (by decide)
          exact ⟨x, q4, _, ok_spec_l3App _ _, (smallw_leaf _ _ _ q3 (by decide)).mono (by omega), q5⟩
      · obtain ⟨r, q1, q2⟩ := dr_l1Once c1 2 hc1
        refine ⟨r, q2, fun _ => ?_, fun _ => q1⟩
        obtain ⟨x, ⟨q3, q5⟩, q4⟩ := dr_pick r.2 ([([88] : Str), ([89] : Str), ([90] : Str)] : List Str) q1 (by decide) (by decide)
        exact ⟨x, q4, _, ok_spec_l3Var _, (smallw_leaf _ _ _ q3 (by decide)).mono (by omega), q5⟩
      · have hd2 := hb h
        have ew : IntKind.i64.wrap (depth - 1) = depth - 1 := i64_wrap (by omega) (by omega)
        obtain ⟨r, q1, q2⟩ := dr_l1Once c1 3 hc1
        refine ⟨r, q2, fun _ => ?_, fun _ => ?_⟩
        · obtain ⟨x, ⟨q3, q5⟩, q4⟩ := ih r.2 (depth - 1) g q1 (by omega) (by omega) (by omega)
          exact ⟨x, by rw [ew]; exact q4, _, ok_spec_l3One _ _, (smallw_one _ (by decide) q3).mono (by omega), q5⟩
        · obtain ⟨x, ⟨q3, q5⟩, q4⟩ := ih r.2 (depth - 1) g q1 (by omega) (by omega) (by omega)
          obtain ⟨y, ⟨q6, q7⟩, q8⟩ := dr_pick x.2 ([([102] : Str), ([102] : Str), ([104] : Str)] : List Str) q5 (by decide) (by decide)
          obtain ⟨z, ⟨q9, q10⟩, q11⟩ := ih y.2 (depth - 1) g q7 (by omega) (by omega) (by omega)
          exact ⟨x, by rw [ew]; exact q4, y, q8, z, by rw [ew]; exact q11, _, ok_spec_l3Pair _ _ _, (smallw_two _ q6 q3 q9).mono (by omega), q10⟩
    · obtain ⟨r, q1, q2⟩ := dr_l1Once c 4 hc
      refine ⟨r, q2, q1, fun _ => ?_⟩
      have := of_decide_eq_false h
      omega
/-- Terms that are drawn at a depth of 1 to 4. -/
theorem dr_draw (c : T_spec_l1Cur) (d : Int) (g : Bool) (hc : CurOK c) (h0 : 0 ≤ d) (h1 : d ≤ 4) : ∃ r : Tm × T_spec_l1Cur, (SmallW 15 r.1 ∧ CurOK r.2) ∧ C_spec_l3Draw c d g r :=
  dr_l3Draw 3 c d g hc (by omega) (by omega) (by omega)
theorem small_kind {n : Nat} {t : Tm} (h : Small n t) (k : Int) : Small n (.mk k t.n t.name t.args) :=
  ⟨by have := h.nodes; rw [nodes_eq] at this ⊢; exact this, .mk _ h.nm.name h.nm.args⟩
theorem small_n {n : Nat} {t : Tm} (h : Small n t) (k : Int) : Small n (.mk t.kind k t.name t.args) :=
  ⟨by have := h.nodes; rw [nodes_eq] at this ⊢; exact this, .mk _ h.nm.name h.nm.args⟩
theorem small_name {n : Nat} {t : Tm} (h : Small n t) (s : Str) (hs : s.length ≤ 15) : Small n (.mk t.kind t.n s t.args) :=
  ⟨by have := h.nodes; rw [nodes_eq] at this ⊢; exact this, .mk _ (by simpa only [Tm.mk_name] using hs) h.nm.args⟩
theorem nodesL_snoc1 (ts : List Tm) (u : Tm) : Tm.nodesL (ts ++ [u]) = Tm.nodesL ts + u.nodes := by
  induction ts with
  | nil => simp [Tm.nodesL]
  | cons a ts ih => simp [Tm.nodesL, ih]; omega
theorem small_arg {n : Nat} {t u : Tm} (h : Small n t) (hu : Small 1 u) : Small (n + 1) (.mk t.kind t.n t.name (t.args ++ [u])) := by
  have hn1 := h.nodes
  rw [nodes_eq] at hn1
  refine ⟨?_, .mk _ h.nm.name ?_⟩
  · rw [nodes_eq, Tm.mk_args, nodesL_snoc1]
    have := hu.nodes
    omega
  · intro v hv
    simp only [Tm.mk_args, List.mem_append, List.mem_singleton] at hv
    rcases hv with hv | rfl
    · exact h.nm.args v hv
    · exact hu.nm
theorem dr_l3Bent (c : T_spec_l1Cur) (hc : CurOK c) : ∃ r : Tm × T_spec_l1Cur, (Small 31 r.1 ∧ CurOK r.2) ∧ C_spec_l3Bent c r := by
  refine w_spec_l3Bent c _ ?_
  obtain ⟨r1, ⟨a1, a2, a3⟩, a4⟩ := dr_below c 4 hc (by decide)
  obtain ⟨r2, b1, b2⟩ := dr_l1Once r1.2 2 a3
  have ew : IntKind.i64.wrap (1 + r1.1) = 1 + r1.1 := i64_wrap (by omega) (by omega)
  obtain ⟨r3, ⟨⟨c1, _⟩, c2⟩, c3⟩ := dr_draw r2.2 (1 + r1.1) r2.1 b1 (by omega) (by omega)
  obtain ⟨r4, ⟨d1, d2, d3⟩, d4⟩ := dr_below r3.2 12 c2 (by decide)
  refine ⟨r1, a4, r2, b2, r3, by rw [ew]; exact c3, r4, d4, fun _ => ?_, fun _ => ⟨fun _ => ?_, fun _ => ⟨fun _ => ?_, fun _ => ⟨fun _ => ?_, fun _ => ⟨fun _ => ?_, fun _ => ?_⟩⟩⟩⟩⟩
  · obtain ⟨x, ⟨_, _, q3⟩, q4⟩ := dr_below r4.2 5 d3 (by decide)
    exact ⟨x, q4, (small_kind c1 _).mono (by decide), q3⟩
  · obtain ⟨x, ⟨_, q3⟩, q4⟩ := dr_l1PickInt r4.2 ([(4 : Int), (-1 : Int), (1 : Int)] : List Int) d3 (by decide)
    exact ⟨x, q4, (small_n c1 _).mono (by decide), q3⟩
  · obtain ⟨x, ⟨q5, q3⟩, q4⟩ := dr_pick r4.2 ([([] : Str), ([88] : Str), ([102] : Str), ([97, 66] : Str)] : List Str) d3 (by decide) (by decide)
    exact ⟨x, q4, (small_name c1 _ q5).mono (by decide), q3⟩
  · have := nodesL_len r3.1.args
    have h5 := c1.nodes
    rw [nodes_eq] at h5
    exact ⟨_, ok_spec_l3Word 1, bnd (by show r3.1.args.length + 1 ≤ _; omega) (by decide), (small_arg c1 (small_leaf _ _ _ (by decide))).mono (by decide), d3⟩
  · refine LOOP.upP 16 (fun k t => Small (15 + k) t) (by decide) c1 ?_
    intro k hk t ht N hN
    refine ⟨fun h => ⟨_, ok_spec_l3One _ t, hN ?_ _ ?_⟩, fun h => ⟨ht.mono (by omega), d3⟩⟩
    · have h2 := of_decide_eq_true h
      simp only at h2
      omega
    · exact (small_one _ _ _ (by decide) ht).mono (by omega)
  · exact ⟨c1.mono (by decide), d3⟩
/-- A substitution of small terms. -/
structure SBd (n m : Nat) (l : List Bd) : Prop where
  mk ::
  len : l.length ≤ n
  tm : ∀ b ∈ l, Small m b.term
  nm : ∀ b ∈ l, b.name.length ≤ 15
  wf : ∀ b ∈ l, b.term.Wf
theorem SBd.bok {n m : Nat} {l : List Bd} (h : SBd n m l) (hn : n < 68719476735) (hm : m < 68719476735) : BOk l :=
  ⟨by have := h.len; omega, fun b hb => (h.tm b hb).ok (by decide) hm, fun b hb => by have := h.nm b hb; omega⟩
theorem dr_l7Draw (c : T_spec_l1Cur) (hc : CurOK c) : ∃ r : List Bd × T_spec_l1Cur, (SBd 3 15 r.1 ∧ CurOK r.2) ∧ C_spec_l7Draw c r := by
  refine w_spec_l7Draw c _ ?_
  obtain ⟨r1, ⟨a1, a2, a3⟩, a4⟩ := dr_below c 4 hc (by decide)
  refine ⟨r1, a4, ?_⟩
  refine LOOP.upP 3 (fun k x => SBd k 15 x.1 ∧ CurOK x.2) (by decide) ⟨⟨by simp, by simp, by simp, by simp⟩, a3⟩ ?_
  rintro k hk ⟨l, c1⟩ ⟨h1, h2⟩ N hN
  simp only at h1 h2
  refine ⟨fun h => ?_, fun h => ⟨⟨by have := h1.len; show l.length ≤ 3; omega, h1.tm, h1.nm, h1.wf⟩, h2⟩⟩
  have hlt := of_decide_eq_true h
  simp only at hlt
  obtain ⟨r2, ⟨b1, b2⟩, b3⟩ := dr_pick c1 ([([88] : Str), ([89] : Str), ([90] : Str)] : List Str) h2 (by decide) (by decide)
  obtain ⟨r3, ⟨c3, c4, c5⟩, c6⟩ := dr_below r2.2 2 b2 (by decide)
  obtain ⟨r4, d1, d2⟩ := dr_l1Once r3.2 2 c5
  have ew : IntKind.i64.wrap (1 + r3.1) = 1 + r3.1 := i64_wrap (by omega) (by omega)
  obtain ⟨r5, ⟨e1, e2⟩, e3⟩ := dr_draw r4.2 (1 + r3.1) r4.1 d1 (by omega) (by omega)
  refine ⟨r2, b3, r3, c6, r4, d2, r5, by rw [ew]; exact e3, bnd (by have := h1.len; show l.length + 1 ≤ _; omega) (by decide), hN (by omega) _ ⟨⟨?_, ?_, ?_, ?_⟩, e2⟩⟩
  · have := h1.len
    simp
    omega
  · intro b hb
    simp only [List.mem_append, List.mem_singleton] at hb
    rcases hb with hb | rfl
    · exact h1.tm b hb
    · exact e1.sm
  · intro b hb
    simp only [List.mem_append, List.mem_singleton] at hb
    rcases hb with hb | rfl
    · exact h1.nm b hb
    · exact b1
  · intro b hb
    simp only [List.mem_append, List.mem_singleton] at hb
    rcases hb with hb | rfl
    · exact h1.wf b hb
    · exact e1.wf

/-! ### Terms after a substitution -/

theorem nodesL_map_le {f : Tm → Tm} {m : Nat} : ∀ {ts : List Tm}, (∀ t ∈ ts, (f t).nodes ≤ t.nodes * m) → Tm.nodesL (ts.map f) ≤ Tm.nodesL ts * m
  | [], _ => by simp [Tm.nodesL]
  | t :: ts, h => by
    have h1 := h t (by simp)
    have h2 := nodesL_map_le (ts := ts) fun u hu => h u (by simp [hu])
    simp only [List.map_cons, Tm.nodesL, Nat.add_mul]
    omega
theorem bound_mem {l : List Bd} {s : Str} {u : Tm} (h : bound l s = some u) : ∃ b ∈ l, b.term = u ∧ b.name = s := by
  unfold bound at h
  rw [Option.map_eq_some_iff] at h
  obtain ⟨b, hb, rfl⟩ := h
  exact ⟨b, List.mem_of_find?_eq_some hb, rfl, by have := List.find?_some hb; simpa using this⟩
theorem apply_cases (l : List Bd) (t : Tm) : (∃ b ∈ l, t.apply l = b.term) ∨ t.apply l = .mk t.kind t.n t.name (t.args.map (Tm.apply l)) := by
  cases hk : (t.kind == 1) with
  | false => exact .inr (Tm.apply_new (.inl hk))
  | true =>
    cases hb : bound l t.name with
    | none => exact .inr (Tm.apply_new (.inr hb))
    | some u =>
      obtain ⟨b, h1, h2, _⟩ := bound_mem hb
      exact .inl ⟨b, h1, by rw [Tm.apply_var hk hb, h2]⟩
theorem apply_sm {B m : Nat} {l : List Bd} (hm : 1 ≤ m) (hl : ∀ b ∈ l, Sm B m b.term) (t : Tm) : t.Nm B → Sm B (t.nodes * m) (t.apply l) := by
  induction t using Tm.ind with | h t ih =>
  intro ht
  have hpos : 1 ≤ t.nodes := by rw [nodes_eq]; omega
  rcases apply_cases l t with ⟨b, hb, e⟩ | e
  · rw [e]
    exact (hl b hb).mono (Nat.le_mul_of_pos_left _ hpos)
  · rw [e]
    refine ⟨?_, .mk _ ht.name ?_⟩
    · rw [nodes_eq, Tm.mk_args, nodes_eq t, Nat.add_mul]
      have := nodesL_map_le (m := m) (f := Tm.apply l) (ts := t.args) fun u hu => (ih u hu (ht.args u hu)).nodes
      omega
    · intro v hv
      simp only [Tm.mk_args, List.mem_map] at hv
      obtain ⟨u, hu, rfl⟩ := hv
      exact (ih u hu (ht.args u hu)).nm
mutual
/-- A term with a longer name at each variable. -/
def Tm.rename (s : Str) : Tm → Tm
  | .mk k n x a => .mk k n (if k == 1 then x ++ s else x) (Tm.renameL s a)
def Tm.renameL (s : Str) : List Tm → List Tm
  | [] => []
  | t :: ts => t.rename s :: Tm.renameL s ts
end
theorem renameL_map (s : Str) : ∀ ts : List Tm, Tm.renameL s ts = ts.map (Tm.rename s)
  | [] => by simp [Tm.renameL]
  | t :: ts => by simp [Tm.renameL, renameL_map s ts]
theorem rename_eq (s : Str) (t : Tm) : t.rename s = .mk t.kind t.n (if t.kind == 1 then t.name ++ s else t.name) (t.args.map (Tm.rename s)) := by
  cases t with
  | mk k n x a =>
    simp only [Tm.rename, Tm.kind, Tm.n, Tm.name, Tm.args, renameL_map]
    rfl
theorem rename_sm {B : Nat} {s : Str} (t : Tm) : t.Nm B → Sm (B + s.length) t.nodes (t.rename s) := by
  induction t using Tm.ind with | h t ih =>
  intro ht
  rw [rename_eq]
  refine ⟨?_, .mk _ ?_ ?_⟩
  · rw [nodes_eq, Tm.mk_args, nodes_eq t]
    have := nodesL_map_le (m := 1) (f := Tm.rename s) (ts := t.args) fun u hu => by
      have := (ih u hu (ht.args u hu)).nodes
      omega
    omega
  · rw [Tm.mk_name]
    have := ht.name
    split
    · rw [List.length_append]
      omega
    · omega
  · intro v hv
    simp only [Tm.mk_args, List.mem_map] at hv
    obtain ⟨u, hu, rfl⟩ := hv
    exact (ih u hu (ht.args u hu)).nm

theorem apply_wf {l : List Bd} (hl : ∀ b ∈ l, b.term.Wf) (t : Tm) : t.Wf → (t.apply l).Wf := by
  induction t using Tm.ind with | h t ih =>
  intro ht
  rcases apply_cases l t with ⟨b, hb, e⟩ | e
  · rw [e]
    exact hl b hb
  · rw [e]
    refine .mk _ (fun h => ?_) (fun h => ht.app h) ?_
    · rw [Tm.mk_args, ht.leaf h]
      rfl
    · intro v hv
      simp only [Tm.mk_args, List.mem_map] at hv
      obtain ⟨u, hu, rfl⟩ := hv
      exact ih u hu (ht.args u hu)
theorem rename_wf {s : Str} (t : Tm) : t.Wf → (t.rename s).Wf := by
  induction t using Tm.ind with | h t ih =>
  intro ht
  rw [rename_eq]
  refine .mk _ (fun h => ?_) (fun h => ht.app h) ?_
  · rw [Tm.mk_args, ht.leaf h]
    rfl
  · intro v hv
    simp only [Tm.mk_args, List.mem_map] at hv
    obtain ⟨u, hu, rfl⟩ := hv
    exact ih u hu (ht.args u hu)

end Go.Proofs.Ytfhgjhchjekbgaa
set_option linter.unusedVariables false
set_option linter.unusedSimpArgs false
namespace Go.Proofs.Ytfhgjhchjekbgaa
open Go

theorem ok_spec_RenameVars (s : Str) (hs : s.length ≤ 100) (t : Tm) : t.Ok → C_spec_RenameVars t s (t.rename s) := by
  induction t using Tm.ind with | h t ih =>
  intro ht
  refine via (w_spec_RenameVars t s (· = t.rename s) ?_)
  have hn := ht.name
  refine ⟨fun x => x = (if t.kind == 1 then t.name ++ s else t.name), ?_, fun h1 => ⟨by omega, by rw [if_pos h1]⟩, fun h1 => by rw [if_neg (by rw [h1]; simp)]⟩
  rintro x rfl
  refine LOOP.up t.args.length (fun k => (t.args.take k).map (Tm.rename s)) (by have := ht.len; omega) rfl ?_
  intro k hk N hN
  refine ⟨fun h => ?_, fun h => ?_⟩
  · obtain ⟨u, hu⟩ := get_k h
    exact ⟨u, geti hu, _, ih u (List.mem_of_getElem? hu) (ht.get hu), bnd (by have := take_len t.args k; have := ht.len; show ((t.args.take k).map (Tm.rename s)).length + 1 ≤ _; rw [List.length_map]; omega) (by decide), hN (lt_k h) _ (take_snocm hu)⟩
  · show Tm.mk t.kind t.n _ ((t.args.take k).map (Tm.rename s)) = t.rename s
    rw [take_all (ge_k h), rename_eq]

/-- Two terms that are drawn. -/
def Two (r : Tm × Tm) : Prop := (Sm 20 225 r.1 ∧ Sm 20 225 r.2) ∧ r.1.Wf ∧ r.2.Wf
def One (r : Tm × Tm) : Prop := (Small 15 r.1 ∧ Small 225 r.2) ∧ r.1.Wf ∧ r.2.Wf
theorem dr_l8Two (code : List Int) (h : code.length ≤ 1048576) : ∃ r : Tm × Tm, One r ∧ C_spec_l8Two code r := by
  refine w_spec_l8Two code _ ?_
  obtain ⟨r1, a1, a2⟩ := dr_l1New code h
  obtain ⟨r2, ⟨b1, b2, b3⟩, b4⟩ := dr_below r1 3 a1 (by decide)
  have ew : IntKind.i64.wrap (1 + r2.1) = 1 + r2.1 := i64_wrap (by omega) (by omega)
  obtain ⟨r3, ⟨⟨c1, cw⟩, c2⟩, c3⟩ := dr_draw r2.2 (1 + r2.1) false b3 (by omega) (by omega)
  obtain ⟨r4, d1, d2⟩ := dr_l1Once r3.2 3 c2
  refine ⟨r1, a2, r2, b4, r3, by rw [ew]; exact c3, r4, d2, fun _ => ?_, fun _ => ?_⟩
  · obtain ⟨r5, e1, e2⟩ := dr_l1Once r4.2 2 d1
    obtain ⟨r6, ⟨⟨f1, fw⟩, f2⟩, f3⟩ := dr_draw r5.2 3 r5.1 e1 (by decide) (by decide)
    exact ⟨r5, e2, r6, f3, ⟨c1, f1.mono (by decide)⟩, cw, fw⟩
  · obtain ⟨r5, ⟨e1, e2⟩, e3⟩ := dr_l7Draw r4.2 d1
    refine ⟨r5, e3, _, ok_spec_ApplySubst r5.1 (e1.bok (by decide) (by decide)) r3.1 (c1.ok (by decide) (by decide)), ⟨c1, ?_⟩, cw, apply_wf e1.wf r3.1 cw⟩
    refine (apply_sm (by decide) e1.tm r3.1 c1.nm).mono ?_
    have := c1.nodes
    omega
theorem dr_DrawMatchTerm (code : List Int) (h : code.length ≤ 1048576) : ∃ r : Tm × Tm, One r ∧ C_spec_DrawMatchTerm code r := by
  refine w_spec_DrawMatchTerm code _ ?_
  obtain ⟨r, h1, h2⟩ := dr_l8Two code h
  exact ⟨r, h2, h1⟩
theorem dr_DrawIsVariant (code : List Int) (h : code.length ≤ 1048576) : ∃ r : Tm × Tm, Two r ∧ C_spec_DrawIsVariant code r := by
  refine w_spec_DrawIsVariant code _ ?_
  obtain ⟨r, ⟨⟨h1, h2⟩, hw1, hw2⟩, h3⟩ := dr_l8Two code h
  obtain ⟨c, a1, a2⟩ := dr_l1New code h
  obtain ⟨r4, d1, d2⟩ := dr_l1Once c 2 a1
  refine ⟨r, h3, c, a2, r4, d2, fun _ => ⟨_, ok_spec_RenameVars [49] (by decide) r.1 (h1.ok (by decide) (by decide)), ⟨(h1.mono (by decide)).wide (by decide), ?_⟩, hw1, rename_wf _ hw1⟩, fun _ => ⟨⟨(h1.mono (by decide)).wide (by decide), h2.wide (by decide)⟩, hw1, hw2⟩⟩
  exact ((rename_sm (s := [49]) r.1 h1.nm).mono (by have := h1.nodes; omega)).wide (by decide)
theorem dr_DrawUnifyTerms (code : List Int) (h : code.length ≤ 1048576) : ∃ r : Tm × Tm, Two r ∧ C_spec_DrawUnifyTerms code r := by
  refine w_spec_DrawUnifyTerms code _ ?_
  obtain ⟨r, ⟨⟨h1, h2⟩, hw1, hw2⟩, h3⟩ := dr_l8Two code h
  obtain ⟨c, a1, a2⟩ := dr_l1New code h
  obtain ⟨r4, d1, d2⟩ := dr_l1Once c 2 a1
  refine ⟨r, h3, c, a2, r4, d2, fun _ => ⟨_, ok_spec_RenameVars [49] (by decide) r.2 (h2.ok (by decide) (by decide)), ⟨(h1.mono (by decide)).wide (by decide), ?_⟩, hw1, rename_wf _ hw2⟩, fun _ => ⟨⟨(h1.mono (by decide)).wide (by decide), h2.wide (by decide)⟩, hw1, hw2⟩⟩
  exact ((rename_sm (s := [49]) r.2 h2.nm).mono (by have := h2.nodes; omega)).wide (by decide)
theorem dr_DrawComposeSubst (code : List Int) (h : code.length ≤ 1048576) : ∃ r : List Bd × List Bd, (SBd 3 15 r.1 ∧ SBd 3 15 r.2) ∧ C_spec_DrawComposeSubst code r := by
  refine w_spec_DrawComposeSubst code _ ?_
  obtain ⟨c, a1, a2⟩ := dr_l1New code h
  obtain ⟨r1, ⟨b1, b2⟩, b3⟩ := dr_l7Draw c a1
  obtain ⟨r2, ⟨c1, c2⟩, c3⟩ := dr_l7Draw r1.2 b2
  exact ⟨c, a2, r1, b3, r2, c3, b1, c1⟩
theorem dr_DrawApplySubst (code : List Int) (h : code.length ≤ 1048576) : ∃ r : List Bd × Tm, (SBd 3 15 r.1 ∧ Small 31 r.2) ∧ C_spec_DrawApplySubst code r := by
  refine w_spec_DrawApplySubst code _ ?_
  obtain ⟨c, a1, a2⟩ := dr_l1New code h
  obtain ⟨r1, ⟨b1, b2⟩, b3⟩ := dr_l7Draw c a1
  obtain ⟨r2, ⟨c1, c2⟩, c3⟩ := dr_l3Bent r1.2 b2
  exact ⟨c, a2, r1, b3, r2, c3, b1, c1⟩
theorem dr_DrawRestrictSubst (code : List Int) (h : code.length ≤ 1048576) : ∃ r : List Bd × List Str, (SBd 3 15 r.1 ∧ r.2.length ≤ 4) ∧ C_spec_DrawRestrictSubst code r := by
  refine w_spec_DrawRestrictSubst code _ ?_
  obtain ⟨c, a1, a2⟩ := dr_l1New code h
  obtain ⟨r1, ⟨b1, b2⟩, b3⟩ := dr_l7Draw c a1
  obtain ⟨r2, ⟨c1, c2, c3⟩, c4⟩ := dr_below r1.2 5 b2 (by decide)
  refine ⟨c, a2, r1, b3, r2, c4, ⟨Int.le_refl _, c1, ?_⟩, b1, ?_⟩
  · show r2.1 ≤ (4 : Int)
    omega
  · simp
    omega
theorem dr_DrawSameSubst (code : List Int) (h : code.length ≤ 1048576) : ∃ r : List Bd × List Bd, (SBd 3 15 r.1 ∧ SBd 3 15 r.2) ∧ C_spec_DrawSameSubst code r := by
  refine w_spec_DrawSameSubst code _ ?_
  obtain ⟨c, a1, a2⟩ := dr_l1New code h
  obtain ⟨r1, ⟨b1, b2⟩, b3⟩ := dr_l7Draw c a1
  obtain ⟨r2, d1, d2⟩ := dr_l1Once r1.2 2 b2
  refine ⟨c, a2, r1, b3, r2, d2, fun _ => ⟨bnd (by have := b1.len; simp; omega) (by decide), b1, by simpa using b1⟩, fun _ => ?_⟩
  obtain ⟨r3, ⟨c1, c2⟩, c3⟩ := dr_l7Draw r2.2 d1
  exact ⟨r3, c3, b1, c1⟩

end Go.Proofs.Ytfhgjhchjekbgaa
set_option linter.unusedVariables false
set_option linter.unusedSimpArgs false
namespace Go.Proofs.Ytfhgjhchjekbgaa
open Go

/-- What l says, l' says too. -/
def BExt (l l' : List Bd) : Prop := ∀ s u, bound l s = some u → bound l' s = some u
theorem BExt.refl (l : List Bd) : BExt l l := fun _ _ h => h
theorem BExt.trans {a b c : List Bd} (h : BExt a b) (h' : BExt b c) : BExt a c := fun s u hs => h' s u (h s u hs)
theorem bound_append (a b : List Bd) (s : Str) : bound (a ++ b) s = match bound a s with
    | some u => some u
    | none => bound b s := by
  unfold bound
  rw [List.find?_append]
  cases h : a.find? (fun b => b.name == s) <;> simp
theorem bext_append (a b : List Bd) : BExt a (a ++ b) := fun s u h => by rw [bound_append, h]
theorem bound_one (s : Str) (t : Tm) (x : Str) : bound [⟨s, t⟩] x = if s == x then some t else none := by
  unfold bound
  rw [List.find?_cons]
  cases h : (s == x) <;> simp [h]

mutual
theorem mt_sound : ∀ (p t : Tm) (l l1 : List Bd), p.mt t l = (l1, true) → BExt l l1 ∧ ∀ l', BExt l1 l' → p.apply l' = t
  | .mk k n s a, t, l, l1, h => by
    simp only [Tm.mt] at h
    split at h
    · rename_i hk
      split at h
      · rename_i u hu
        simp only [Prod.mk.injEq] at h
        obtain ⟨rfl, h⟩ := h
        refine ⟨BExt.refl _, fun l' hl => ?_⟩
        rw [← eqb_of h]
        exact Tm.apply_var hk (hl s u hu)
      · rename_i hu
        simp only [Prod.mk.injEq, and_true] at h
        subst h
        refine ⟨bext_append _ _, fun l' hl => ?_⟩
        refine Tm.apply_var hk (hl s t ?_)
        rw [bound_append, hu, bound_one]
        simp
    · rename_i hk
      split at h
      · rename_i hc
        simp only [Bool.and_eq_true, beq_iff_eq] at hc
        obtain ⟨⟨⟨h1, h2⟩, h3⟩, h4⟩ := hc
        obtain ⟨g1, g2⟩ := mtL_sound a t.args l l1 h4 h
        refine ⟨g1, fun l' hl => ?_⟩
        have hk' : (Tm.kind (.mk k n s a) == 1) = false := by
          rw [Tm.mk_kind]
          simpa using hk
        rw [Tm.apply_new (.inl hk')]
        show Tm.mk k n s (a.map (Tm.apply l')) = t
        rw [g2 l' hl, h1, h2, h3]
        exact Tm.eta t
      · simp at h
theorem mtL_sound : ∀ (ps ts : List Tm) (l l1 : List Bd), ps.length = ts.length → Tm.mtL ps ts l = (l1, true) → BExt l l1 ∧ ∀ l', BExt l1 l' → ps.map (Tm.apply l') = ts
  | [], ts, l, l1, hlen, h => by
    simp only [Tm.mtL, Prod.mk.injEq, and_true] at h
    subst h
    have : ts = [] := List.eq_nil_of_length_eq_zero (by simpa using hlen.symm)
    subst this
    exact ⟨BExt.refl _, fun _ _ => rfl⟩
  | p :: ps, [], l, l1, hlen, h => by simp at hlen
  | p :: ps, t :: ts, l, l1, hlen, h => by
    simp only [Tm.mtL] at h
    split at h
    · rename_i l2 e
      obtain ⟨h1, h2⟩ := mt_sound p t l l2 e
      obtain ⟨h3, h4⟩ := mtL_sound ps ts l2 l1 (by simpa using hlen) h
      refine ⟨h1.trans h3, fun l' hl => ?_⟩
      rw [List.map_cons, h2 l' (h3.trans hl), h4 l' hl]
    · simp at h
end

/-! ### Names in order -/

theorem insN_mem (s x : Str) (l : List Str) : x ∈ insN s l ↔ x = s ∨ x ∈ l := by
  induction l with
  | nil => simp [insN]
  | cons y l ih =>
    simp only [insN]
    split
    · simp only [List.mem_cons, ih]
      constructor
      · rintro (h | h | h)
        · exact .inr (.inl h)
        · exact .inl h
        · exact .inr (.inr h)
      · rintro (h | h | h)
        · exact .inr (.inl h)
        · exact .inl h
        · exact .inr (.inr h)
    · split
      · rename_i h
        have : y = s := by simpa using h
        subst this
        simp
      · simp
theorem foldN_mem (x : Str) (l o : List Str) : x ∈ l.foldl (fun o s => insN s o) o ↔ x ∈ l ∨ x ∈ o := by
  induction l generalizing o with
  | nil => simp
  | cons y l ih =>
    rw [List.foldl_cons, ih, insN_mem, List.mem_cons]
    constructor
    · rintro (h | h | h)
      · exact .inl (.inr h)
      · exact .inl (.inl h)
      · exact .inr h
    · rintro ((h | h) | h)
      · exact .inr (.inl h)
      · exact .inl h
      · exact .inr (.inr h)
theorem sortN_mem (x : Str) (l : List Str) : x ∈ sortN l ↔ x ∈ l := by
  unfold sortN
  rw [foldN_mem]
  simp
theorem bound_fm (l : List Bd) (ns : List Str) (s : Str) : bound (ns.filterMap fun s => (bound l s).map fun t => (⟨s, t⟩ : Bd)) s = if s ∈ ns then bound l s else none := by
  induction ns with
  | nil => rfl
  | cons x ns ih =>
    rw [List.filterMap_cons]
    cases h : bound l x with
    | none =>
      simp only [Option.map_none]
      rw [ih]
      by_cases e : s = x
      · subst e
        simp [h]
      · simp [e]
    | some u =>
      simp only [Option.map_some]
      have e0 : ∀ r : List Bd, ((⟨x, u⟩ : Bd) :: r) = [(⟨x, u⟩ : Bd)] ++ r := fun r => rfl
      rw [e0, bound_append, bound_one, ih]
      by_cases e : s = x
      · subst e
        simp [h]
      · have : (x == s) = false := by simpa using fun h => e h.symm
        simp [this, e]
theorem bound_restr (l : List Bd) (ns : List Str) (s : Str) : bound (restr l ns) s = if s ∈ ns then bound l s else none := by
  unfold restr
  rw [bound_fm]
  simp only [sortN_mem]
theorem namesL_mem {u : Tm} {ts : List Tm} (h : u ∈ ts) {s : Str} (hs : s ∈ u.names) : s ∈ Tm.namesL ts := by
  induction ts with
  | nil => cases h
  | cons t ts ih =>
    simp only [Tm.namesL, List.mem_append]
    rcases List.mem_cons.1 h with rfl | h
    · exact .inl hs
    · exact .inr (ih h)
theorem apply_congr {l l' : List Bd} (t : Tm) : (∀ s ∈ t.names, bound l s = bound l' s) → t.apply l = t.apply l' := by
  induction t using Tm.ind with | h t ih =>
  intro h
  have hargs : t.args.map (Tm.apply l) = t.args.map (Tm.apply l') := by
    apply List.map_congr_left
    intro u hu
    refine ih u hu fun s hs => h s ?_
    rw [names_eq, List.mem_append]
    exact .inr (namesL_mem hu hs)
  cases hk : (t.kind == 1) with
  | false => rw [Tm.apply_new (.inl hk), Tm.apply_new (.inl hk), hargs]
  | true =>
    have hb := h t.name (by rw [names_eq, hk]; simp)
    cases e : bound l t.name with
    | none => rw [Tm.apply_new (.inr e), Tm.apply_new (.inr (hb ▸ e)), hargs]
    | some u => rw [Tm.apply_var hk e, Tm.apply_var hk (hb ▸ e)]
/-- A match makes the pattern equal to the term. -/
theorem match_eq {p t : Tm} (h : (p.mt t []).2 = true) : p.apply (restr (p.mt t []).1 (sortN p.names)) = t := by
  have e : p.mt t [] = ((p.mt t []).1, true) := by rw [← h]
  refine Eq.trans (apply_congr p fun s hs => ?_) ((mt_sound p t [] _ e).2 _ (BExt.refl _))
  rw [bound_restr, if_pos ((sortN_mem s _).2 hs)]
theorem bound_map (a : List Bd) (f : Tm → Tm) (s : Str) : bound (a.map fun x => ⟨x.name, f x.term⟩) s = (bound a s).map f := by
  induction a with
  | nil => rfl
  | cons x a ih =>
    unfold bound at ih ⊢
    rw [List.map_cons, List.find?_cons, List.find?_cons]
    cases h : (x.name == s)
    · simpa using ih
    · rfl
theorem bound_filter (b : List Bd) (f : Str → Bool) (s : Str) (hf : f s = true) : bound (b.filter fun x => f x.name) s = bound b s := by
  induction b with
  | nil => rfl
  | cons x b ih =>
    rw [List.filter_cons]
    split
    · unfold bound at ih ⊢
      rw [List.find?_cons, List.find?_cons]
      cases h : (x.name == s)
      · exact ih
      · rfl
    · rename_i h
      rw [ih]
      unfold bound
      rw [List.find?_cons]
      have : (x.name == s) = false := by
        cases e : (x.name == s)
        · rfl
        · have : x.name = s := by simpa using e
          rw [this] at h
          exact absurd hf h
      rw [this]
theorem bound_comp (a b : List Bd) (s : Str) : bound (comp a b) s = match bound a s with
    | some u => some (u.apply b)
    | none => bound b s := by
  unfold comp
  rw [bound_append, bound_map a (Tm.apply b) s]
  cases h : bound a s with
  | some u => rfl
  | none =>
    simp only [Option.map_none]
    exact bound_filter b (fun x => !(bound a x).isSome) s (by rw [h]; rfl)
/-- A composition has the effect of both. -/
theorem comp_eq (a b : List Bd) (t : Tm) : t.apply (comp a b) = (t.apply a).apply b := by
  induction t using Tm.ind with | h t ih =>
  have hargs : t.args.map (Tm.apply (comp a b)) = (t.args.map (Tm.apply a)).map (Tm.apply b) := by
    rw [List.map_map]
    exact List.map_congr_left fun u hu => ih u hu
  have hc := bound_comp a b t.name
  cases hk : (t.kind == 1) with
  | false =>
    rw [Tm.apply_new (.inl hk), Tm.apply_new (l := a) (.inl hk), hargs]
    exact (Tm.apply_new (t := .mk t.kind t.n t.name (t.args.map (Tm.apply a))) (l := b) (.inl hk)).symm
  | true =>
    cases e : bound a t.name with
    | some u =>
      rw [e] at hc
      rw [Tm.apply_var hk hc, Tm.apply_var hk e]
    | none =>
      rw [e] at hc
      rw [Tm.apply_new (l := a) (.inr e)]
      cases e2 : bound b t.name with
      | some u =>
        rw [Tm.apply_var hk (hc.trans e2)]
        exact (Tm.apply_var (t := .mk t.kind t.n t.name _) hk e2).symm
      | none =>
        rw [Tm.apply_new (.inr (hc.trans e2)), hargs]
        exact (Tm.apply_new (t := .mk t.kind t.n t.name _) (.inr e2)).symm

end Go.Proofs.Ytfhgjhchjekbgaa
