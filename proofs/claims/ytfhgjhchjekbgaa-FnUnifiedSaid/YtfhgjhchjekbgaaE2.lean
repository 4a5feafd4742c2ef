/-
  The operations that change memory: appends, made rows, structs, fields, strings of bytes.
-/
import Derived.Test.YtfhgjhchjekbgaaE1
import Derived.Laws.MakeOwn
import Derived.Laws.BytesArg
set_option linter.unusedVariables false
set_option linter.unusedSimpArgs false
namespace Go.Proofs.Ytfhgjhchjekbgaa
open Go

section
variable {F : Fr} {G G' : Gh} {σ σh : AS} {a : Act} {w w' : World} {P : Program} {o : Oper} {d : Nat}

theorem heads_splice {K : Nat → Nat} {cur : Array Value} {olds news : List Value} {xs ys : List (List PV)} {sz : Nat} (h1 : Flat K w olds xs sz) (h2 : Flat K w news ys sz) (hc : ∀ (k : Nat) (u : Value), olds[k]? = some u → cur[k]? = some u)
    (hfit : xs.length * sz + news.length ≤ cur.size) : Heads K w (cur.toList.take (xs.length * sz) ++ news ++ cur.toList.drop (xs.length * sz + news.length)).toArray (xs ++ ys) sz := by
  refine (h1.append h2).heads fun i v hi => ?_
  rw [List.getElem?_toArray, splice_get _ _ _ _ (by simpa using hfit)]
  by_cases hlt : i < xs.length * sz
  · rw [if_pos hlt]
    rw [List.getElem?_append_left (by rw [h1.len]; exact hlt)] at hi
    simpa using hc i v hi
  · rw [if_neg hlt]
    rw [List.getElem?_append_right (by rw [h1.len]; omega), h1.len] at hi
    have := lt_of_getElem? hi
    rw [if_pos (by omega)]
    exact hi
theorem heads_grown {K : Nat → Nat} {olds news : List Value} {rest : Array Value} {xs ys : List (List PV)} {sz : Nat} (h1 : Flat K w olds xs sz) (h2 : Flat K w news ys sz) : Heads K w (olds.toArray ++ news.toArray ++ rest) (xs ++ ys) sz := by
  refine (h1.append h2).heads fun i v hi => ?_
  have hlt := lt_of_getElem? hi
  rw [Array.getElem?_append_left (by simpa using hlt)]
  simpa using hi

theorem setL_same {σ : AS} {g : Tag} {x : Nat × RK} (h : σ.tl g = some x) : σ.setL g x = σ := by
  cases σ
  simp only [AS.setL, AS.mk.injEq, true_and]
  funext g'
  by_cases e : g' = g
  · subst e
    simp only [if_true]
    exact h.symm
  · rw [if_neg e]

theorem mul_cap {n m sz cap : Nat} (h : n + m ≤ cap) : n * sz + m * sz ≤ cap * sz := by
  rw [← Nat.add_mul]
  exact Nat.mul_le_mul_right _ h

theorem grown_ok {n m cap bytes : Nat} {e : TypeId} (hb0 : 0 < bytes) (hbytes : (n + m) * bytes ≤ 140737488355328) (hg : cap < n + m) :
    ((n + m : Nat) : Int) ≤ 9223372036854775807 ∧ Builtin.nextslicecap (n + m) cap * bytes ≤ 281474976710656 ∧ n + m ≤ grownCap w (n + m) cap e ∧ grownCap w (n + m) cap e ≤ maxLen := by
  have : (n + m) * 1 ≤ (n + m) * bytes := Nat.mul_le_mul_left _ hb0
  exact ⟨by omega, growslice_fits hg hbytes, grownCap_ge w _ _ _, grownCap_le_maxLen w _ _ _ (by unfold maxLen; omega)⟩

theorem grown_size {olds news : List Value} {z : Value} {n m cap' sz : Nat} (h1 : olds.length = n * sz) (h2 : news.length = m * sz) (hz : z.cells.size = sz) (hge : n + m ≤ cap') :
    (olds.toArray ++ news.toArray ++ Builtin.zeroCells z.cells (cap' - (n + m))).size = cap' * sz := by
  simp only [Array.size_append, List.size_toArray, size_zeroCells, hz, h1, h2, ← Nat.add_mul]
  congr 1
  omega

theorem does_app {c : Call} {y z : Operand} {t u : TypeId} {v : Value} (ho : o.op = .call c) (hc : c.callee = .builtin .append) (hca : c.args.toList = [y, z]) (hct : c.argTypes.toList = [t, u])
    (hr : (Builtin.append_ #[t, u] o.type #[a.eval y, a.eval z]).run P w = .ok v w') : Does P o a w v w' := by
  have e1 : c.args = #[y, z] := Array.toList_inj.1 hca
  have e2 : c.argTypes = #[t, u] := Array.toList_inj.1 hct
  refine .inl ?_
  unfold execOp
  simp only [ho, resolve, hc, invoke, builtin, Sem.run_bind, Sem.run_pure, Result.andThen_ok, e1, e2, List.map_toArray, List.map_cons, List.map_nil, hr]

/-- A row that is nil gets its next name. -/
theorem Rel.rowNext (h : Rel F G σ a w) {g0 : Tag} {r sz : Nat} {xs : List (List PV)} (ht : σ.tl g0 = some (r, .mo sz xs)) :
    ∃ G', Rel F G' (σ.setL g0 (r + 1, .mo sz xs)) a w ∧ G'.V g0 = G.V g0 ∧ G'.K = G.K := by
  have htl : ∀ g, g ≠ g0 → (σ.setL g0 (r + 1, .mo sz xs)).tl g = σ.tl g := fun g hg => by simp only [AS.setL, if_neg hg]
  have htl0 : (σ.setL g0 (r + 1, .mo sz xs)).tl g0 = some (r + 1, .mo sz xs) := by simp only [AS.setL, if_true]
  have hmt : ∀ g n k', σ.tl g = some (n, k') → ∃ n' k'', (σ.setL g0 (r + 1, .mo sz xs)).tl g = some (n', k'') ∧ n ≤ n' ∧ (n = n' → k'.leq k'' (G.V g) (G.V g)) := by
    intro g n k' hg
    by_cases hne : g = g0
    · subst hne
      rw [ht] at hg
      simp only [Option.some.injEq, Prod.mk.injEq] at hg
      obtain ⟨rfl, rfl⟩ := hg
      exact ⟨_, _, htl0, by omega, fun e => by omega⟩
    · exact ⟨n, k', by rw [htl g hne]; exact hg, Nat.le_refl _, fun _ => RK.leq_refl _ _⟩
  have hmono : ∀ v x, IRel G σ.box σ.tl w v x → IRel G (σ.setL g0 (r + 1, .mo sz xs)).box (σ.setL g0 (r + 1, .mo sz xs)).tl w v x := fun v x hv => hv.mono (Ext.refl _ _) (fun s cs hs => ⟨cs, hs, rfl⟩) hmt
  have hblk : ∀ x b, G.blk (σ.setL g0 (r + 1, .mo sz xs)) x = some b → G.blk σ x = some b := by
    intro x b hx
    cases x with
    | inl s =>
      obtain ⟨cs, h1, h2⟩ := blk_inl hx
      exact h2 ▸ blk_inl_mk (G := G) (σ := σ) h1
    | inr g =>
      obtain ⟨n, k', h1, h2, h3⟩ := blk_inr hx
      by_cases hg : g = g0
      · subst hg
        exact blk_inr_mk ht (by simp) h3
      · rw [htl g hg] at h1
        exact blk_inr_mk h1 h2 h3
  refine ⟨G, h.mem rfl (Ext.refl _ _) h.kok (fun _ _ _ => rfl) (Keep.refl _ _) (fun s cs hs => ⟨cs, hs, rfl⟩) hmt (fun s cs hs => ?_) (fun g n k' hg => ?_) (fun x y b hx hy => h.disj x y b (hblk x b hx) (hblk y b hy)) (fun s cs hs => h.boxK s cs hs) (fun x b hx => h.mine x b (hblk x b hx)), rfl, rfl⟩
  · exact (h.boxes s cs hs).kept rfl rfl hmono
  · by_cases hg0 : g = g0
    · subst hg0
      rw [htl0] at hg
      simp only [Option.some.injEq, Prod.mk.injEq] at hg
      obtain ⟨rfl, rfl⟩ := hg
      exact h.rows g _ _ ht
    · rw [htl g hg0] at hg
      exact h.rows g n k' hg

theorem m_app (h : Rel F G σ a w) (hle : σh.le σ) {c : Call} {x y : Opd} {sz bytes : Nat} (ho : o.op = .call c) (hk : appOK P c x y sz bytes = true) (hnn : (σh.tl (0, d, 0)).isNone = true → (σ.tl (0, d, 0)).isNone = true) {r : Res} (hev : evK σh d (.app x y sz bytes) = some r) : Out P F σ a w o r := by
  unfold appOK at hk
  simp only [Bool.and_eq_true] at hk
  obtain ⟨hk0, hk⟩ := hk
  split at hk0
  case h_2 => cases hk0
  rename_i hcal
  split at hk
  case h_2 => cases hk
  rename_i x' y' t u hca hct
  simp only [Bool.and_eq_true] at hk
  obtain ⟨⟨⟨hx, hy⟩, hu⟩, hk⟩ := hk
  have hu' : NotInt P u := by
    split at hu
    · exact .inl (by assumption)
    · exact .inr ⟨_, by assumption⟩
    · cases hu
  split at hk
  case h_2 => cases hk
  rename_i e ht
  split at hk
  case h_2 => cases hk
  rename_i i hi
  simp only [Bool.and_eq_true, decide_eq_true_eq] at hk
  obtain ⟨⟨⟨⟨hsz, hby⟩, h0⟩, hb0⟩, hk⟩ := hk
  split at hk
  case h_2 => cases hk
  rename_i z hz
  simp only [decide_eq_true_eq] at hk
  subst hsz
  subst hby
  simp only [evK, hle.val] at hev
  split at hev
  case h_1 => cases hev
  rename_i ys hys
  split at hev
  case isFalse => cases hev
  rename_i hes
  obtain ⟨news, hsrc, hfl⟩ := src_rel (P := P) (opd_rel h hy) hys hes
  have hx1 := opd_rel h hx
  split at hev
  · -- a tip
    rename_i g q xs hp
    split at hev
    case h_2 => cases hev
    rename_i q' n sz' htl
    split at hev
    case isFalse => cases hev
    rename_i hcd
    obtain ⟨rfl, rfl, rfl, hbytes⟩ := hcd
    simp only [Option.some.injEq] at hev
    subst hev
    have htl' := hle.tl _ _ htl
    rw [hp] at hx1
    obtain ⟨n1, k1, hrep, h2, h3, h4⟩ := hx1.inv_tip
    rw [htl'] at h2
    simp only [Option.some.injEq, Prod.mk.injEq] at h2
    obtain ⟨rfl, rfl⟩ := h2
    obtain ⟨hxe, _, hVV⟩ := h4 rfl _ _ rfl
    have hV := hVV rfl
    obtain ⟨bl, hrow⟩ := h.rows g _ _ htl'
    obtain ⟨olds, hsrc0, hfl0⟩ := src_rel (P := P) hx1 (ys := xs) rfl hxe
    have hye : ∀ e ∈ xs ++ ys, e.length = i.size := fun e he => by
      rcases List.mem_append.1 he with h5 | h5
      · exact hxe e h5
      · exact hes e h5
    have hlen : (xs ++ ys).length = xs.length + ys.length := List.length_append
    rcases hrow.inv with ⟨e1, e2, _⟩ | ⟨b, cap, cur, e', e1, _, hg, hnc, hm, hcs, _, hK⟩
    · have e3 : xs = [] := List.eq_nil_of_length_eq_zero e2
      subst e3
      rw [e1] at hV
      rcases Nat.eq_zero_or_pos ys.length with h5 | h5
      · have e4 : ys = [] := List.eq_nil_of_length_eq_zero h5
        subst e4
        have hr := run_app_none (ty := o.type) hu' ht hi hsrc
        rw [← hV] at hr
        refine ⟨G, _, w, does_app ho hcal hca hct hr, ?_, ?_⟩
        · rw [mid_tls1, setL_same (by simpa using htl')]
          exact h
        · rw [mid_tls1, setL_same (by simpa using htl')]
          exact hx1
      · obtain ⟨g1, g2, g3, g4⟩ := grown_ok (w := w) (e := e) (n := 0) (cap := 0) hb0 (by simpa using hbytes) (by omega : 0 < 0 + ys.length)
        have hf0 := hsrc0.first w.drew rfl
        rw [hV] at hf0
        have hr := run_app_grow (ty := o.type) hu' ht hi hz hsrc (base := none) (n := 0) (cap := 0) hf0 (by omega) g1 g2
        rw [← hV] at hr
        obtain ⟨G1, h6, h7⟩ := h.drew.rowNewTip (g0 := g) (r := q) (es := [] ++ ys) e (heads_grown (hfl0.ext ⟨fun _ => Nat.le_refl _, fun _ _ _ => rfl⟩) (hfl.ext ⟨fun _ => Nat.le_refl _, fun _ _ _ => rfl⟩)) hye (by simpa using g3) g4 (grown_size (n := 0) hsrc0.size hsrc.size hk g3) h0 (fun n0 k0 hg => by
          rw [htl'] at hg
          simp only [Option.some.injEq, Prod.mk.injEq] at hg
          obtain ⟨rfl, rfl⟩ := hg
          exact ⟨Nat.le_refl _, fun _ => ⟨_, rfl, by simpa using h5⟩⟩)
        refine ⟨G1, _, _, does_app ho hcal hca hct hr, ?_, ?_⟩
        · rw [mid_tls1, ← hlen]
          exact h6
        · rw [mid_tls1, ← hlen]
          simpa using h7
    · rw [e1] at hV
      by_cases hroom : xs.length + ys.length ≤ cap
      · have hmc := mul_cap (sz := i.size) hroom
        have hfit : xs.length * i.size + news.length ≤ cur.size := by rw [hsrc.size, hcs]; exact hmc
        have hr := run_app_room (ty := o.type) hu' ht hi hsrc hg hroom hfit
        rw [← hV] at hr
        have hcc : ∀ (k : Nat) (u : Value), olds[k]? = some u → cur[k]? = some u := by
          intro k u hk2
          have hsl := hrep.flat hxe
          obtain ⟨ad, cap2, vs2, hv2, hfl2, hcell2⟩ := hsl
          have hrun := hsrc0.first w rfl
          have hlt := lt_of_getElem? hk2
          rw [hsrc0.size] at hlt
          rw [hV] at hrun
          have hload := run_loadCells (P := P) w ⟨b, 0, none⟩ (xs.length * i.size) (fun j => (cur[j]?).getD undef) (fun j hj => by
            rw [addr_add, cell_heap hg]
            have : j < cur.size := by omega
            simp [this])
          simp only [Builtin.firstCells, hload] at hrun
          simp only [Result.ok.injEq, and_true] at hrun
          have hrun2 := congrArg Array.toList hrun
          simp only at hrun2
          rw [← hrun2] at hk2
          simp only [List.getElem?_map, List.getElem?_range hlt, Option.map_some, Option.some.injEq] at hk2
          subst hk2
          have : k < cur.size := by omega
          simp [this]
        have hhead := heads_splice hfl0 hfl hcc hfit
        have hsize : (cur.toList.take (xs.length * i.size) ++ news ++ cur.toList.drop (xs.length * i.size + news.length)).toArray.size = cur.size := by
          rw [List.size_toArray, splice_length _ _ _ (by simpa using hfit)]
          simp
        have hadd : (xs.length + ys.length) * i.size = xs.length * i.size + ys.length * i.size := Nat.add_mul _ _ _
        obtain ⟨G1, h6, hK1, hρ1, hV1, hm1⟩ := h.rowPut (g0 := g) (r := q) (k := .tip (xs.length + ys.length) i.size) (V' := .slice (some ⟨b, 0, none⟩) (xs.length + ys.length) cap) (K' := fun c => if c = b then (xs.length + ys.length) * i.size else G.K c)
          (cur' := (cur.toList.take (xs.length * i.size) ++ news ++ cur.toList.drop (xs.length * i.size + news.length)).toArray) hg htl' (by simp) (by rw [e1]; rfl) rfl (by simp) (fun c hc => by simp only [if_neg hc]) (by simp only [if_true]; omega) (by simp only [if_true]; rw [hsize]; omega)
          (fun j hj => by
            rw [hK] at hj
            rw [List.getElem?_toArray, splice_get _ _ _ _ (by simpa using hfit), if_pos hj]
            simp) ⟨Nat.le_refl _, fun _ => ⟨_, rfl, by omega, fun e2 => by
              have : ys.length = 0 := by omega
              rw [e1, this]
              rfl⟩⟩ (fun hext => ⟨[b], .row b _ cap i.size _ e' (setRow_heap w b cur _ e' _ hg) hroom hm (by rw [hsize]; exact hcs) h0 (by simp only [if_true])⟩)
        have hext : Ext G.K G1.K w (w.setRow b (cur.toList.take (xs.length * i.size) ++ news ++ cur.toList.drop (xs.length * i.size + news.length)).toArray) := by
          rw [hK1]
          refine ⟨fun c => ?_, fun c j hj => ?_⟩
          · by_cases hc : c = b
            · subst hc
              simp only [if_true]
              omega
            · simp only [if_neg hc]
              exact Nat.le_refl _
          · by_cases hc : c = b
            · subst hc
              rw [cell_heap (setRow_heap w c cur _ e' _ hg), cell_heap hg]
              rw [hK] at hj
              rw [List.getElem?_toArray, splice_get _ _ _ _ (by simpa using hfit), if_pos hj]
              simp
            · exact cell_of_heap (setRow_other w b c _ hc)
        refine ⟨G1, _, _, does_app ho hcal hca hct hr, h6, ?_⟩
        refine .tip g q (xs ++ ys) q (.tip (xs.length + ys.length) i.size) ?_ (by simp [AS.mid, AS.setBs, AS.setLs, AS.setL]) (Nat.le_refl _) fun _ m sz' hk2 => ?_
        · rw [← hlen]
          exact mkSlice (setRow_heap w b cur _ e' _ hg) (by rw [hlen]; exact hroom) (by rw [hK1]; simp only [if_true]; rw [hlen]; exact Nat.le_refl _) hye (hhead.ext hext)
        · cases hk2
          exact ⟨hye, by rw [hlen]; exact Nat.le_refl _, fun _ => hV1.symm⟩
      · obtain ⟨g1, g2, g3, g4⟩ := grown_ok (w := w) (e := e) (n := xs.length) (m := ys.length) (cap := cap) hb0 hbytes (by omega)
        have hf0 := hsrc0.first w.drew rfl
        rw [hV] at hf0
        have hr := run_app_grow (ty := o.type) hu' ht hi hz hsrc hf0 (by omega) g1 g2
        rw [← hV] at hr
        obtain ⟨G1, h6, h7⟩ := h.drew.rowNewTip (g0 := g) (r := q) (es := xs ++ ys) e (heads_grown (hfl0.ext ⟨fun _ => Nat.le_refl _, fun _ _ _ => rfl⟩) (hfl.ext ⟨fun _ => Nat.le_refl _, fun _ _ _ => rfl⟩)) hye (by rw [hlen]; exact g3) g4 (grown_size hsrc0.size hsrc.size hk g3) h0 (fun n0 k0 hg => by
          rw [htl'] at hg
          simp only [Option.some.injEq, Prod.mk.injEq] at hg
          obtain ⟨rfl, rfl⟩ := hg
          exact ⟨Nat.le_refl _, fun _ => ⟨_, rfl, by rw [hlen]; omega⟩⟩)
        rw [hlen] at h6 h7
        exact ⟨G1, _, _, does_app ho hcal hca hct hr, h6, h7⟩
  · -- a row that may be written
    rename_i g q hp
    split at hev
    case h_2 => cases hev
    rename_i q' sz' xs htl
    split at hev
    case isFalse => cases hev
    rename_i hcd
    obtain ⟨rfl, rfl, hbytes⟩ := hcd
    simp only [Option.some.injEq] at hev
    subst hev
    have htl' := hle.tl _ _ htl
    rw [hp] at hx1
    have hV := hx1.inv_mo htl'
    obtain ⟨bl, hrow⟩ := h.rows g _ _ htl'
    have hlen : (xs ++ ys).length = xs.length + ys.length := List.length_append
    have hold : ∀ n0 k0, σ.tl g = some (n0, k0) → n0 < q + 1 := fun n0 k0 hg => by
      rw [htl'] at hg
      simp only [Option.some.injEq, Prod.mk.injEq] at hg
      obtain ⟨rfl, rfl⟩ := hg
      omega
    rcases hrow.inv_mu with ⟨e1, e3, _⟩ | ⟨b, cap, cur, e', f, e1, _, hg, hnc, hm, hcs, _, hK, hxe', hcell, hone, hrep⟩
    · subst e3
      rw [e1] at hV
      have hf0 : (Builtin.firstCells i.size 0 (.slice none 0 0)).run P w.drew = .ok ([] : List Value).toArray w.drew := by simp [Builtin.firstCells]
      rcases Nat.eq_zero_or_pos ys.length with h5 | h5
      · have e4 : ys = [] := List.eq_nil_of_length_eq_zero h5
        subst e4
        have hr := run_app_none (ty := o.type) hu' ht hi hsrc
        rw [← hV] at hr
        obtain ⟨G1, h6, h7, h8⟩ := h.rowNext (g0 := g) htl'
        exact ⟨G1, _, w, does_app ho hcal hca hct hr, h6, .mo g (q + 1) (q + 1) (.mo i.size []) (by rw [hV]; rfl) (by simp [AS.mid, AS.setBs, AS.setLs, AS.setL]) (Nat.le_refl _) fun _ _ _ _ => by rw [h7, hV, e1]⟩
      · obtain ⟨g1, g2, g3, g4⟩ := grown_ok (w := w) (e := e) (n := 0) (cap := 0) hb0 (by simpa using hbytes) (by omega : 0 < 0 + ys.length)
        have hr := run_app_grow (ty := o.type) hu' ht hi hz hsrc (base := none) (n := 0) (cap := 0) hf0 (by omega) g1 g2
        rw [← hV] at hr
        obtain ⟨G1, h6, h7⟩ := h.drew.rowNewMo (g0 := g) (r := q + 1) (es := [] ++ ys) e (heads_grown (Flat.nil _ _ i.size) (hfl.ext ⟨fun _ => Nat.le_refl _, fun _ _ _ => rfl⟩)) hes (by simpa using g3) g4 (grown_size (n := 0) (by simp) hsrc.size hk g3) h0 hold
        refine ⟨G1, _, _, does_app ho hcal hca hct hr, h6, ?_⟩
        simpa [mid_tls1] using h7
    · have hxe : ∀ e ∈ xs, e.length = i.size := fun e he => by
        obtain ⟨j, hj⟩ := List.mem_iff_getElem?.1 he
        exact hxe' j e hj
      have hye : ∀ e ∈ xs ++ ys, e.length = i.size := fun e he => by
        rcases List.mem_append.1 he with h5 | h5
        · exact hxe e h5
        · exact hes e h5
      rw [e1] at hV
      have hcl : xs.length * i.size ≤ cap * i.size := Nat.mul_le_mul_right _ hnc
      have hfl0 : Flat G.K w (cur.toList.take (xs.length * i.size)) xs i.size := by
        refine ⟨by simp; omega, hxe, fun p x j c hx hj => ?_⟩
        have h8 := lt_of_getElem? hx
        have h9 := lt_of_getElem? hj
        rw [hxe' p x hx] at h9
        have := mulAdd_lt h8 h9
        refine ⟨f p j, ?_, hone p x j c hx hj, hrep p x j c hx hj⟩
        rw [List.getElem?_take, if_pos this, Array.getElem?_toList]
        exact hcell p x j c hx hj
      have hol : (cur.toList.take (xs.length * i.size)).length = xs.length * i.size := by simp; omega
      by_cases hroom : xs.length + ys.length ≤ cap
      · have hmc := mul_cap (sz := i.size) hroom
        have hfit : xs.length * i.size + news.length ≤ cur.size := by rw [hsrc.size, hcs]; exact hmc
        have hr := run_app_room (ty := o.type) hu' ht hi hsrc hg hroom hfit
        rw [← hV] at hr
        have hhead := heads_splice hfl0 hfl (cur := cur) (fun k u hk2 => by
          have := lt_of_getElem? hk2
          rw [hol] at this
          rw [List.getElem?_take, if_pos this] at hk2
          simpa using hk2) hfit
        have hsize : (cur.toList.take (xs.length * i.size) ++ news ++ cur.toList.drop (xs.length * i.size + news.length)).toArray.size = cur.size := by
          rw [List.size_toArray, splice_length _ _ _ (by simpa using hfit)]
          simp
        obtain ⟨G1, h6, hK1, hρ1, hV1, hm1⟩ := h.rowPut (g0 := g) (r := q + 1) (k := .mo i.size (xs ++ ys)) (V' := .slice (some ⟨b, 0, none⟩) (xs.length + ys.length) cap) (K' := G.K)
          (cur' := (cur.toList.take (xs.length * i.size) ++ news ++ cur.toList.drop (xs.length * i.size + news.length)).toArray) hg htl' (by simp) (by rw [e1]; rfl) rfl (by simp) (fun c hc => rfl) (Nat.le_refl _) (by omega)
          (fun j hj => by omega) ⟨by omega, fun e2 => by omega⟩ (fun hext => ⟨[b], by
            rw [← hlen]
            exact mkMu (setRow_heap w b cur _ e' _ hg) (by rw [hlen]; exact hroom) hm (by rw [hsize]; exact hcs) h0 hK (fun i x hx => hye x (List.mem_of_getElem? hx)) (hhead.ext hext)⟩)
        refine ⟨G1, _, _, does_app ho hcal hca hct hr, h6, ?_⟩
        exact .mo g (q + 1) (q + 1) (.mo i.size (xs ++ ys)) rfl (by simp [AS.mid, AS.setBs, AS.setLs, AS.setL]) (Nat.le_refl _) fun _ _ _ _ => hV1.symm
      · obtain ⟨g1, g2, g3, g4⟩ := grown_ok (w := w) (e := e) (n := xs.length) (m := ys.length) (cap := cap) hb0 hbytes (by omega)
        have hf0 : (Builtin.firstCells i.size xs.length (.slice (some ⟨b, 0, none⟩) xs.length cap)).run P w.drew = .ok (cur.toList.take (xs.length * i.size)).toArray w.drew := by
          refine run_firstCells_some (P := P) w.drew i.size xs.length ⟨b, 0, none⟩ xs.length cap _ hol fun j u hj => ?_
          have := lt_of_getElem? hj
          rw [hol] at this
          rw [List.getElem?_take, if_pos this] at hj
          rw [addr_add, Nat.zero_add, show w.drew.cell? ⟨b, j, none⟩ = w.cell? ⟨b, j, none⟩ from rfl, cell_heap hg]
          simpa using hj
        have hr := run_app_grow (ty := o.type) hu' ht hi hz hsrc hf0 (by omega) g1 g2
        rw [← hV] at hr
        obtain ⟨G1, h6, h7⟩ := h.drew.rowNewMo (g0 := g) (r := q + 1) (es := xs ++ ys) e (heads_grown (hfl0.ext ⟨fun _ => Nat.le_refl _, fun _ _ _ => rfl⟩) (hfl.ext ⟨fun _ => Nat.le_refl _, fun _ _ _ => rfl⟩)) hye (by rw [hlen]; exact g3) g4 (grown_size hol hsrc.size hk g3) h0 hold
        refine ⟨G1, _, _, does_app ho hcal hca hct hr, h6, ?_⟩
        rw [hlen] at h7
        exact h7
  · -- a nil row
    rename_i sz' hp
    split at hev
    case isFalse => cases hev
    rename_i hcd
    obtain ⟨hn0, hbytes⟩ := hcd
    have hn := hnn hn0
    simp only [Option.some.injEq] at hev
    subst hev
    rw [hp] at hx1
    have hV := hx1.inv_nil
    rcases Nat.eq_zero_or_pos ys.length with h5 | h5
    · have e4 : ys = [] := List.eq_nil_of_length_eq_zero h5
      subst e4
      have hr := run_app_none (ty := o.type) hu' ht hi hsrc
      rw [← hV] at hr
      obtain ⟨G1, hr1, _, _, hV1, _, _⟩ := h.newNil (g0 := (0, d, 0)) (isNone_eq hn) (.tip 0 i.size) (.inl ⟨i.size, rfl⟩)
      refine ⟨G1, _, w, does_app ho hcal hca hct hr, hr1, ?_⟩
      rw [hV]
      refine .tip _ 0 [] 0 (.tip 0 i.size) (.slice0 _ _) (by simp [AS.mid, AS.setBs, AS.setLs, AS.setL]) (Nat.le_refl _) fun _ m sz' hk2 => ?_
      cases hk2
      exact ⟨by simp, Nat.le_refl _, fun _ => hV1.symm⟩
    · have hf0 : (Builtin.firstCells i.size 0 (.slice none 0 0)).run P w.drew = .ok ([] : List Value).toArray w.drew := by simp [Builtin.firstCells]
      obtain ⟨g1, g2, g3, g4⟩ := grown_ok (w := w) (e := e) (n := 0) (cap := 0) hb0 (by simpa using hbytes) (by omega : 0 < 0 + ys.length)
      have hr := run_app_grow (ty := o.type) hu' ht hi hz hsrc (base := none) (n := 0) (cap := 0) hf0 (by omega) g1 g2
      rw [← hV] at hr
      obtain ⟨G1, h6, h7⟩ := h.drew.rowNewTip (g0 := (0, d, 0)) (r := 0) (es := [] ++ ys) e (heads_grown (Flat.nil _ _ i.size) (hfl.ext ⟨fun _ => Nat.le_refl _, fun _ _ _ => rfl⟩)) hes (by simpa using g3) g4 (grown_size (n := 0) (by simp) hsrc.size hk g3) h0 (fun n0 k0 hg => by rw [isNone_eq hn] at hg; cases hg)
      refine ⟨G1, _, _, does_app ho hcal hca hct hr, ?_, ?_⟩
      · simpa [mid_tls1] using h6
      · simpa [mid_tls1] using h7
  · cases hev

end

end Go.Proofs.Ytfhgjhchjekbgaa
set_option linter.unusedVariables false
set_option linter.unusedSimpArgs false
namespace Go.Proofs.Ytfhgjhchjekbgaa
open Go

section
variable {F : Fr} {G G' : Gh} {σ σh : AS} {a : Act} {w w' : World} {P : Program} {o : Oper} {d : Nat}

/-! ### A struct, part by part -/

def placesOf (P : Program) (t : TypeId) : Option (List (Nat × Nat)) :=
  match P.underlying t with
  | some (.struct fields) => fields.toList.mapM (fun f => (P.info? f.type).map fun i => (f.offset, i.size))
  | _ => none
def bpartsOK (places : List (Nat × Nat)) : List (Nat × Operand) → List (Nat × Nat × Opd) → Bool
  | [], [] => true
  | (i, y) :: ps, (o, n, x) :: xs => decide (places[i]? = some (o, n)) && opdOK y x && bpartsOK places ps xs
  | _, _ => false
def buildOK (P : Program) (t : TypeId) (parts : Array (Nat × Operand)) (zero : List IV) (xs : List (Nat × Nat × Opd)) : Bool :=
  zeroOK P t zero && (match placesOf P t with
    | some pl => bpartsOK pl parts.toList xs
    | none => false)

theorem fill_rel (h : Rel F G σ a w) (hle : σh.le σ) {places : List (Nat × Nat)} : ∀ {ps : List (Nat × Operand)} {xs : List (Nat × Nat × Opd)} {cells : Array Value} {zs cs : List IV}, bpartsOK places ps xs = true → cells.size = zs.length →
    (∀ (i : Nat) (c : IV), zs[i]? = some c → ∃ v, cells[i]? = some v ∧ v.oneCell' = true ∧ IRel G σ.box σ.tl w v c) → fillParts σh zs xs = some cs →
    ∃ cells', Instr.fill (places.toArray[·]?) cells (ps.map fun x => (x.1, a.eval x.2)) = some cells' ∧ cells'.size = cs.length ∧
      ∀ (i : Nat) (c : IV), cs[i]? = some c → ∃ v, cells'[i]? = some v ∧ v.oneCell' = true ∧ IRel G σ.box σ.tl w v c
  | [], [], cells, zs, cs, _, hsz, hz, hf => by
    simp only [fillParts, Option.some.injEq] at hf
    subst hf
    exact ⟨cells, rfl, hsz, hz⟩
  | [], _ :: _, _, _, _, ho, _, _, _ => by simp [bpartsOK] at ho
  | _ :: _, [], _, _, _, ho, _, _, _ => by simp [bpartsOK] at ho
  | (i, y) :: ps, (o, n, x) :: xs, cells, zs, cs, ho, hsz, hz, hf => by
    simp only [bpartsOK, Bool.and_eq_true, decide_eq_true_eq] at ho
    obtain ⟨⟨h1, h2⟩, h3⟩ := ho
    simp only [fillParts, hle.val] at hf
    split at hf
    case h_2 => cases hf
    rename_i ys hys
    split at hf
    case isFalse => cases hf
    rename_i hlen
    split at hf
    case h_2 => cases hf
    rename_i zs' hzs'
    unfold putCells at hzs'
    split at hzs'
    case isFalse => cases hzs'
    rename_i hfit
    simp only [Option.some.injEq] at hzs'
    obtain ⟨h4, h5⟩ := cells_rel (opd_rel h h2) hys
    obtain ⟨cells1, e1, e2, e3⟩ := fill_cons (place := (places.toArray[·]?)) (cells := cells) (i := i) (off := o) (n := n) (v := a.eval y) (rest := ps.map fun x => (x.1, a.eval x.2)) (by simpa using h1) (by omega) (by omega)
    have hvl : (a.eval y).cells.toList.length = ys.length := by simpa using h4
    obtain ⟨cells', e4, e5, e6⟩ := fill_rel h hle (cells := cells1) (zs := zs') h3 (by
      rw [e3, ← hzs', splice_length _ _ _ hfit]
      exact hsz) (fun j c hj => by
      rw [← hzs', splice_get _ _ _ _ hfit] at hj
      rw [← Array.getElem?_toList, e2, ← hlen, ← hvl, splice_get _ _ _ _ (by simp [hvl]; omega), hvl]
      by_cases h6 : j < o
      · rw [if_pos h6] at hj ⊢
        rw [Array.getElem?_toList]
        exact hz j c hj
      · rw [if_neg h6] at hj ⊢
        by_cases h7 : j < o + ys.length
        · rw [if_pos h7] at hj ⊢
          rw [Array.getElem?_toList]
          exact h5 _ c hj
        · rw [if_neg h7] at hj ⊢
          rw [Array.getElem?_toList]
          exact hz j c hj) hf
    refine ⟨cells', ?_, e5, e6⟩
    rw [List.map_cons]
    simp only
    rw [e1]
    exact e4

theorem v_bd (h : Rel F G σ a w) (hle : σh.le σ) {t : TypeId} {parts : Array (Nat × Operand)} {zero : List IV} {xs : List (Nat × Nat × Opd)} (ho : o.op = .build t parts) (hk : buildOK P t parts zero xs = true) {r : Res}
    (hev : evK σh d (.bd zero xs) = some r) : Val P G σ a w o r := by
  simp only [evK] at hev
  rw [Option.map_eq_some_iff] at hev
  obtain ⟨cs, hcs, rfl⟩ := hev
  unfold buildOK at hk
  simp only [Bool.and_eq_true] at hk
  obtain ⟨hz, hk⟩ := hk
  split at hk
  case h_2 => cases hk
  rename_i pl hpl
  unfold placesOf at hpl
  split at hpl
  case h_2 => cases hpl
  rename_i fields hu
  unfold zeroOK at hz
  split at hz
  case h_2 => cases hz
  rename_i it hit
  split at hz
  case h_2 => cases hz
  rename_i z hzz
  obtain ⟨hl, hcc⟩ := zerosOK_rel (G := G) (σ := σ) (w := w) hz
  obtain ⟨cells', h1, h2, h3⟩ := fill_rel h hle (cells := z.cells) hk (by simpa using hl) (fun j c hj => by
    obtain ⟨v, h4, h5⟩ := hcc j c hj
    exact ⟨v, by simpa using h4, h5⟩) hcs
  have hb : P.built t ((parts.map fun x => (x.1, a.eval x.2)).toList) = some cells' := by
    unfold Program.built
    simp only [hit, hu, hzz, hpl]
    rw [Array.toList_map]
    exact h1
  refine ⟨.agg cells', .inl ?_, .agg _ _ (fun i => (cells'[i]?).getD undef) h2 (fun i c hi => ?_) (fun i c hi => ?_) (fun i c hi => ?_), rfl, rfl⟩
  · simp only [execOp, ho]
    have := run_build w t (parts.map fun x => (x.1, a.eval x.2)) cells' hb
    simp [this]
  all_goals obtain ⟨u, h4, h5, h6⟩ := h3 i c hi
  · simp [h4]
  · simp only [h4, Option.getD_some]; exact h5
  · simp only [h4, Option.getD_some]; exact h6

/-! ### A part of a struct -/

def fldOK (P : Program) (s : TypeId) (f off sz : Nat) (ag : Bool) : Bool :=
  match P.underlying s with
  | some (.struct fs) => (match fs[f]? with
    | some fl => decide (fl.offset = off) && szOK P fl.type sz && decide (isAggB P fl.type = some ag)
    | none => false)
  | _ => false

theorem v_fld (h : Rel F G σ a w) (hle : σh.le σ) {s : TypeId} {f off sz : Nat} {ag : Bool} {y : Operand} {y' : Opd} (ho : o.op = .field s y f) (hy : opdOK y y' = true) (hk : fldOK P s f off sz ag = true) {r : Res}
    (hev : evK σh d (.fld y' off sz ag) = some r) : Val P G σ a w o r := by
  simp only [evK, hle.val] at hev
  have h1 := opd_rel h hy
  unfold fldOK at hk
  split at hk
  case h_2 => cases hk
  rename_i fs hu
  split at hk
  case h_2 => cases hk
  rename_i fl hfl
  simp only [Bool.and_eq_true, decide_eq_true_eq] at hk
  obtain ⟨⟨rfl, hsz⟩, hag⟩ := hk
  split at hev
  case h_2 => cases hev
  rename_i cs hcs
  split at hev
  case isFalse => cases hev
  rename_i hin
  rw [Option.map_eq_some_iff] at hev
  obtain ⟨x, hx, rfl⟩ := hev
  obtain ⟨vs, e1, h2, h3⟩ : ∃ vs, a.eval y = .agg vs ∧ vs.size = cs.length ∧ ∀ (i : Nat) (c : IV), cs[i]? = some c → ∃ u, vs[i]? = some u ∧ u.oneCell' = true ∧ IRel G σ.box σ.tl w u c := by
    unfold IV.aggs at hcs
    split at hcs
    · rename_i cs0 hp
      simp only [Option.some.injEq] at hcs
      subst hcs
      rw [hp] at h1
      obtain ⟨vs, f, e1, hl, hc, h4, hr⟩ := h1.inv_agg
      exact ⟨vs, e1, hl, fun i c hi => ⟨f i, hc i c hi, h4 i c hi, hr i c hi⟩⟩
    · rename_i cs0 hp
      simp only [Option.some.injEq] at hcs
      subst hcs
      rw [hp] at h1
      obtain ⟨vs, f, e1, hl, hc, h4, hr⟩ := h1.inv_p.inv_agg
      refine ⟨vs, e1, by simpa using hl, fun i c hi => ?_⟩
      rw [List.getElem?_map, Option.map_eq_some_iff] at hi
      obtain ⟨c0, h5, rfl⟩ := hi
      exact ⟨f i, hc i c0 h5, h4 i c0 h5, .p (hr i c0 h5)⟩
    · cases hcs
  have hcut : ∀ (i : Nat) (c : IV), ((cs.drop fl.offset).take sz)[i]? = some c → i < sz ∧ cs[fl.offset + i]? = some c := by
    intro i c hi
    rw [List.getElem?_take] at hi
    split at hi
    · rename_i hlt
      rw [List.getElem?_drop] at hi
      exact ⟨hlt, hi⟩
    · cases hi
  cases ag
  · unfold oneOrAgg at hx
    simp only [Bool.false_eq_true, if_false] at hx
    split at hx
    · rename_i c hc1
      simp only [Option.some.injEq] at hx
      subst hx
      obtain ⟨_, h4⟩ := hcut 0 c (by rw [hc1]; rfl)
      obtain ⟨u, h5, h6, h7⟩ := h3 _ c h4
      refine ⟨u, .inl ?_, h7, rfl, rfl⟩
      simp only [Nat.add_zero] at h5
      simp [execOp, ho, e1, Instr.field, run_underlying hu, hfl, asAgg, part, run_isAgg_ok hag, h5]
    · cases hx
  · unfold oneOrAgg at hx
    simp only [if_true, Option.some.injEq] at hx
    subst hx
    have hget : ∀ (i : Nat) (c : IV), ((cs.drop fl.offset).take sz)[i]? = some c → ∃ u, (vs.extract fl.offset (fl.offset + sz))[i]? = some u ∧ u.oneCell' = true ∧ IRel G σ.box σ.tl w u c := by
      intro i c hi
      obtain ⟨h4, h5⟩ := hcut i c hi
      obtain ⟨u, h6, h7⟩ := h3 _ c h5
      refine ⟨u, ?_, h7⟩
      rw [Array.getElem?_extract, if_pos (by omega)]
      exact h6
    refine ⟨.agg (vs.extract fl.offset (fl.offset + sz)), .inl ?_, .agg _ _ (fun i => ((vs.extract fl.offset (fl.offset + sz))[i]?).getD undef) (by simp; omega) (fun i c hi => ?_) (fun i c hi => ?_) (fun i c hi => ?_), rfl, rfl⟩
    · simp [execOp, ho, e1, Instr.field, run_underlying hu, hfl, asAgg, part, run_isAgg_ok hag, run_sizeOf_ok hsz]
    all_goals obtain ⟨u, h4, h5, h6⟩ := hget i c hi
    · simp [h4]
    · simp only [h4, Option.getD_some]; exact h5
    · simp only [h4, Option.getD_some]; exact h6

/-! ### A made row -/

def zeroPOK : List Value → List PV → Bool
  | [], [] => true
  | .slice none 0 0 :: vs, .slice [] :: xs => zeroPOK vs xs
  | v :: vs, x :: xs => constOK v x && zeroPOK vs xs
  | _, _ => false
theorem zeroPOK_rel {K : Nat → Nat} : ∀ {vs : List Value} {xs : List PV}, zeroPOK vs xs = true → vs.length = xs.length ∧
    ∀ (i : Nat) (c : PV), xs[i]? = some c → ∃ v, vs[i]? = some v ∧ v.oneCell' = true ∧ Rep K w v c := by
  intro vs xs h
  fun_induction zeroPOK vs xs with
  | case1 => exact ⟨rfl, by simp⟩
  | case2 vs xs ih =>
    obtain ⟨h1, h2⟩ := ih h
    refine ⟨by simp [h1], fun i c hi => ?_⟩
    cases i with
    | zero =>
      simp at hi
      subst hi
      exact ⟨_, rfl, rfl, .slice0 _ _⟩
    | succ i => exact h2 i c (by simpa using hi)
  | case3 v vs x xs _ ih =>
    simp only [Bool.and_eq_true] at h
    obtain ⟨h1, h2⟩ := ih h.2
    refine ⟨by simp [h1], fun i c hi => ?_⟩
    cases i with
    | zero =>
      simp at hi
      subst hi
      exact ⟨_, rfl, constOK_one h.1, constOK_rep h.1 _ _⟩
    | succ i => exact h2 i c (by simpa using hi)
  | case4 => cases h

def mkOK (P : Program) (t : TypeId) (sz bytes : Nat) (zero : List PV) : Bool :=
  match P.underlying t with
  | some (.slice e) => (match P.info? e with
    | some i => decide (i.size = sz) && decide (i.bytes = bytes) && decide (0 < bytes) && (match i.zero with
      | some z => zeroPOK z.cells.toList zero
      | none => false)
    | none => false)
  | _ => false

theorem m_mk (h : Rel F G σ a w) (hle : σh.le σ) {t : TypeId} {n n2 : Operand} {n' : Opd} {sz bytes : Nat} {zero : List PV} (ho : o.op = .makeSlice t n n2) (hn' : opdOK n n' = true) (hn2 : opdOK n2 n' = true) (hk : mkOK P t sz bytes zero = true) (hn : (σ.tl (0, d, 0)).isNone = true) {r : Res} (hev : evK σh d (.mk n' sz bytes zero) = some r) : Out P F σ a w o r := by
  simp only [evK, hle.val] at hev
  have h1 := opd_rel h hn'
  split at hev
  case h_2 => cases hev
  rename_i m hm
  split at hev
  case isFalse => cases hev
  rename_i hcd
  obtain ⟨hm0, hbytes, hzl, h0, _⟩ := hcd
  simp only [Option.some.injEq] at hev
  subst hev
  obtain ⟨k, e1, _⟩ := h1.inv_int hm
  obtain ⟨k2, e2, _⟩ := (opd_rel h hn2).inv_int hm
  unfold mkOK at hk
  split at hk
  case h_2 => cases hk
  rename_i e ht
  split at hk
  case h_2 => cases hk
  rename_i i hi
  simp only [Bool.and_eq_true, decide_eq_true_eq] at hk
  obtain ⟨⟨⟨rfl, rfl⟩, hb0⟩, hk⟩ := hk
  split at hk
  case h_2 => cases hk
  rename_i z hz
  obtain ⟨hzl2, hzc⟩ := zeroPOK_rel (K := G.K) (w := w) hk
  have hm1 : m.toNat * 1 ≤ m.toNat * i.bytes := Nat.mul_le_mul_left _ hb0
  have hmm : (m.toNat : Int) = m := Int.toNat_of_nonneg hm0
  have hr := run_make (P := P) w t e i z ht hi hz k k2 m m hm0 (Int.le_refl _) (by
    have h5 : ((i.bytes * m.toNat : Nat) : Int) ≤ 281474976710656 := by rw [Nat.mul_comm]; omega
    rw [Int.natCast_mul, hmm] at h5
    exact h5) (by omega)
  have hzs : z.cells.size = i.size := by
    have : z.cells.toList.length = z.cells.size := rfl
    omega
  have hlen : (List.replicate m.toNat zero).length = m.toNat := by simp
  have hel : ∀ x ∈ List.replicate m.toNat zero, x.length = i.size := fun x hx => by
    rw [List.mem_replicate] at hx
    rw [hx.2]
    exact hzl
  obtain ⟨G1, h6, h7⟩ := h.rowNewMo (g0 := (0, d, 0)) (r := 0) (cap := m.toNat) (es := List.replicate m.toNat zero) (cur := madeCells z.cells (m.toNat * i.size)) e (fun p x j c hx hj => by
      have h8 := lt_of_getElem? hx
      rw [hlen] at h8
      have h9 : x = zero := by
        have := List.mem_of_getElem? hx
        rw [List.mem_replicate] at this
        exact this.2
      subst h9
      have h10 := lt_of_getElem? hj
      obtain ⟨v, h11, h12, h13⟩ := hzc j c hj
      have h14 : p * i.size + j < m.toNat * i.size := mulAdd_lt h8 (by omega)
      refine ⟨v, ?_, h12, h13⟩
      unfold madeCells
      rw [Array.getElem?_map]
      simp only [Array.getElem?_range, h14, if_true, Option.map_some]
      rw [hzs, Nat.mul_comm, Nat.mul_add_mod, Nat.mod_eq_of_lt (by omega)]
      rw [Array.getElem?_toList] at h11
      rw [getElem!_def, h11]) hel (by rw [hlen]; exact Nat.le_refl _) (by unfold maxLen; omega) (by rw [size_madeCells]) h0 (fun n0 k0 hg => by rw [isNone_eq hn] at hg; cases hg)
  rw [hlen] at h7
  exact ⟨G1, _, _, .inl (by simp only [execOp, ho, e1, e2, Sem.run_bind, hr]; rfl), h6, h7⟩

/-! ### A string of bytes -/

def cvsOK (P : Program) (s t : TypeId) : Bool :=
  (match P.underlying s with
  | some (.slice e) => (match P.underlying e with
    | some (.int .u8) => true
    | _ => false)
  | _ => false) && isStr P t

theorem toBytes_get : ∀ {xs : List (List PV)} {s : List UInt8}, toBytes xs = some s → ∃ ns : List Int, xs = (ns.map fun n => [PV.int .u8 n]) ∧ s = ns.map fun n => UInt8.ofNat n.toNat := by
  intro xs s h
  fun_induction toBytes xs generalizing s with
  | case1 =>
    simp only [Option.some.injEq] at h
    subst h
    exact ⟨[], rfl, rfl⟩
  | case2 n r ih =>
    rw [Option.map_eq_some_iff] at h
    obtain ⟨s', h1, rfl⟩ := h
    obtain ⟨ns, rfl, rfl⟩ := ih h1
    exact ⟨n :: ns, rfl, rfl⟩
  | case3 => cases h

theorem v_cvs (h : Rel F G σ a w) (hle : σh.le σ) {s t : TypeId} {y : Operand} {y' : Opd} (ho : o.op = .convert s t y) (hy : opdOK y y' = true) (hk : cvsOK P s t = true) {r : Res}
    (hev : evK σh d (.cvs y') = some r) : Val P G σ a w o r := by
  simp only [evK, hle.val] at hev
  have h1 := opd_rel h hy
  unfold cvsOK at hk
  simp only [Bool.and_eq_true] at hk
  obtain ⟨hk, ht⟩ := hk
  have ht' : P.underlying t = some .string := by
    unfold isStr at ht
    split at ht
    · assumption
    · cases ht
  split at hk
  case h_2 => cases hk
  rename_i e hs
  split at hk
  case h_2 => cases hk
  rename_i he
  split at hev
  case h_2 => cases hev
  rename_i xs hxs
  rw [Option.map_eq_some_iff] at hev
  obtain ⟨str, hstr, rfl⟩ := hev
  obtain ⟨ns, rfl, rfl⟩ := toBytes_get hstr
  have h2 := h1.inv_elems hxs
  refine ⟨.string (strOfNums ns), .inl ?_, .p (.str _), rfl, rfl⟩
  rcases h2.inv_slice with ⟨ad, cap, e1, e2⟩ | ⟨b, off, cap, sz, f, e1, h0, hp, hK, hsz, hc, h3, hr⟩
  · have e3 : ns = [] := by simpa using e2
    subst e3
    simp only [execOp, ho, e1]
    cases ad with
    | none =>
      rw [Sem.run_bind, run_convert_bytes_nil w s e hs he 0 cap t ht']
      rfl
    | some ad =>
      have hl : (loadCells ad 0).run P w = .ok (([] : List Int).map (Value.int .u8)).toArray w := by simp [loadCells, loadCellsFrom]
      rw [Sem.run_bind, run_convert_bytes_string w s t e _ 0 cap hs he ht', run_bytesToString w _ 0 cap [] hl]
      rfl
  · have hcell : ∀ i, i < ns.length → w.cell? ⟨b, off + i, none⟩ = some (.int .u8 (ns.getD i 0)) := by
      intro i hi
      have hx : (ns.map fun n => [PV.int .u8 n])[i]? = some [PV.int .u8 ns[i]] := by simp [hi]
      have e2 := hsz i _ hx
      simp at e2
      subst e2
      have h4 := hc i _ 0 _ hx rfl
      have h5 := (hr i _ 0 _ hx rfl).inv_int
      rw [h5] at h4
      simp only [Nat.mul_one, Nat.add_zero] at h4
      rw [h4]
      simp [List.getD, hi]
    simp only [execOp, ho, e1, List.length_map]
    rw [Sem.run_bind, run_convert_bytes_arg w s e hs he b off ns.length cap ns rfl hcell t ht']
    rfl

end

end Go.Proofs.Ytfhgjhchjekbgaa
set_option linter.unusedVariables false
set_option linter.unusedSimpArgs false
namespace Go.Proofs.Ytfhgjhchjekbgaa
open Go

section
variable {F : Fr} {G G' : Gh} {σ σ' : AS} {a : Act} {w w' : World}

/-- A row that nobody owns is taken in. -/
theorem Rel.attach (h : Rel F G σ a w) {g0 : Tag} {r : Nat} {k : RK} {V' : Value} (hold : ∀ n0 k0, σ.tl g0 = some (n0, k0) → n0 < r) (hrow : RowOK G.K w V' k)
    (hfree : ∀ b, V'.ownBlock = some b → (∀ x, G.blk σ x ≠ some b) ∧ (b ∈ F.T ∨ F.W0.heap.size ≤ b)) :
    ∃ G', Rel F G' (σ.setL g0 (r, k)) a w ∧ G'.K = G.K ∧ G'.ρ = G.ρ ∧ G'.V g0 = V' ∧ (∀ v x, IRel G σ.box σ.tl w v x → IRel G' (σ.setL g0 (r, k)).box (σ.setL g0 (r, k)).tl w v x) ∧
      (∀ x b, G'.blk (σ.setL g0 (r, k)) x = some b → V'.ownBlock = some b ∨ G.blk σ x = some b) := by
  let G' : Gh := { G with V := fun g => if g = g0 then V' else G.V g }
  have hV : ∀ g, g ≠ g0 → G'.V g = G.V g := fun g hg => by simp only [G', if_neg hg]
  have hV0 : G'.V g0 = V' := by simp only [G', if_true]
  have htl : ∀ g, g ≠ g0 → (σ.setL g0 (r, k)).tl g = σ.tl g := fun g hg => by simp only [AS.setL, if_neg hg]
  have htl0 : (σ.setL g0 (r, k)).tl g0 = some (r, k) := by simp only [AS.setL, if_true]
  have hmt : ∀ g n k', σ.tl g = some (n, k') → ∃ n' k'', (σ.setL g0 (r, k)).tl g = some (n', k'') ∧ n ≤ n' ∧ (n = n' → k'.leq k'' (G.V g) (G'.V g)) := by
    intro g n k' hg
    by_cases hne : g = g0
    · subst hne
      have := hold n k' hg
      exact ⟨r, k, htl0, by omega, fun e => by omega⟩
    · exact ⟨n, k', by rw [htl g hne]; exact hg, Nat.le_refl _, fun _ => by rw [hV g hne]; exact RK.leq_refl _ _⟩
  have hmono : ∀ v x, IRel G σ.box σ.tl w v x → IRel G' (σ.setL g0 (r, k)).box (σ.setL g0 (r, k)).tl w v x := fun v x hv => hv.mono (Ext.refl _ _) (fun s cs hs => ⟨cs, hs, rfl⟩) hmt
  have hblk : ∀ x b, G'.blk (σ.setL g0 (r, k)) x = some b → (x = .inr g0 ∧ V'.ownBlock = some b) ∨ (x ≠ .inr g0 ∧ G.blk σ x = some b) := by
    intro x b hx
    cases x with
    | inl s =>
      obtain ⟨cs, h1, h2⟩ := blk_inl hx
      exact .inr ⟨by simp, h2 ▸ blk_inl_mk (G := G) (σ := σ) h1⟩
    | inr g =>
      obtain ⟨n, k', h1, h2, h3⟩ := blk_inr hx
      by_cases hg : g = g0
      · subst hg
        rw [hV0] at h3
        exact .inl ⟨rfl, h3⟩
      · rw [htl g hg] at h1
        rw [hV g hg] at h3
        exact .inr ⟨by simp [hg], blk_inr_mk h1 h2 h3⟩
  refine ⟨G', h.mem rfl (Ext.refl _ _) h.kok (fun _ _ _ => rfl) (Keep.refl _ _) (fun s cs hs => ⟨cs, hs, rfl⟩) hmt (fun s cs hs => ?_) (fun g n k' hg => ?_) (fun x y b hx hy => ?_) (fun s cs hs => h.boxK s cs hs) (fun x b hx => ?_), rfl, rfl, hV0, hmono, fun x b hx => ?_⟩
  · exact (h.boxes s cs hs).kept rfl rfl hmono
  · by_cases hg0 : g = g0
    · subst hg0
      rw [htl0] at hg
      simp only [Option.some.injEq, Prod.mk.injEq] at hg
      obtain ⟨rfl, rfl⟩ := hg
      rw [hV0]
      exact hrow
    · rw [htl g hg0] at hg
      rw [hV g hg0]
      exact h.rows g n k' hg
  · rcases hblk x b hx with ⟨rfl, h1⟩ | ⟨h1, h1'⟩ <;> rcases hblk y _ hy with ⟨rfl, h2⟩ | ⟨h2, h2'⟩
    · rfl
    · exact absurd h2' ((hfree b h1).1 y)
    · exact absurd h1' ((hfree b h2).1 x)
    · exact h.disj x y b h1' h2'
  · rcases hblk x b hx with ⟨rfl, h1⟩ | ⟨h1, h1'⟩
    · exact (hfree b h1).2
    · exact h.mine x b h1'
  · rcases hblk x b hx with ⟨rfl, h1⟩ | ⟨h1, h1'⟩
    · exact .inl h1
    · exact .inr h1'

/-- A variable that nobody owns is taken in. -/
theorem Rel.attachBox (h : Rel F G σ a w) {d b : Nat} (hf : σ.box d = none) {vs : Array Value} {e : TypeId} {cs : List IV} (hg : w.heap[b]? = some (.cells vs e (0, 0))) (hK : G.K b = 0) (hl : cs.length ≤ vs.size)
    (hc : ∀ (i : Nat) (c : IV), cs[i]? = some c → ∃ v, vs[i]? = some v ∧ v.oneCell' = true ∧ IRel G σ.box σ.tl w v c)
    (hfree : ∀ x, G.blk σ x ≠ some b) (hmine : b ∈ F.T ∨ F.W0.heap.size ≤ b) :
    ∃ G', Rel F G' (σ.setB d cs) a w ∧ G'.K = G.K ∧ G'.V = G.V ∧ G'.ρ d = b ∧ (∀ v x, IRel G σ.box σ.tl w v x → IRel G' (σ.setB d cs).box (σ.setB d cs).tl w v x) ∧
      (∀ x c, G'.blk (σ.setB d cs) x = some c → c = b ∨ G.blk σ x = some c) := by
  let G' : Gh := { G with ρ := fun s => if s = d then b else G.ρ s }
  have hρ : ∀ s, s ≠ d → G'.ρ s = G.ρ s := fun s hs => by simp only [G', if_neg hs]
  have hρ0 : G'.ρ d = b := by simp only [G', if_true]
  have hbx : ∀ s, s ≠ d → (σ.setB d cs).box s = σ.box s := fun s hs => by simp only [AS.setB, if_neg hs]
  have hbx0 : (σ.setB d cs).box d = some cs := by simp only [AS.setB, if_true]
  have hne : ∀ s cs', σ.box s = some cs' → s ≠ d := fun s cs' hs e => by rw [e, hf] at hs; cases hs
  have hmb : ∀ s cs', σ.box s = some cs' → ∃ cs'', (σ.setB d cs).box s = some cs'' ∧ G'.ρ s = G.ρ s := fun s cs' hs => ⟨cs', by rw [hbx s (hne s cs' hs)]; exact hs, hρ s (hne s cs' hs)⟩
  have hmt : ∀ g n k', σ.tl g = some (n, k') → ∃ n' k'', (σ.setB d cs).tl g = some (n', k'') ∧ n ≤ n' ∧ (n = n' → k'.leq k'' (G.V g) (G'.V g)) := fun g n k' hg => ⟨n, k', hg, Nat.le_refl _, fun _ => RK.leq_refl _ _⟩
  have hmono : ∀ v x, IRel G σ.box σ.tl w v x → IRel G' (σ.setB d cs).box (σ.setB d cs).tl w v x := fun v x hv => hv.mono (Ext.refl _ _) hmb hmt
  have hblk : ∀ x c, G'.blk (σ.setB d cs) x = some c → (x = .inl d ∧ c = b) ∨ (x ≠ .inl d ∧ G.blk σ x = some c) := by
    intro x c hx
    cases x with
    | inl s =>
      obtain ⟨cs', h1, h2⟩ := blk_inl hx
      by_cases hs : s = d
      · subst hs
        exact .inl ⟨rfl, by rw [← h2, hρ0]⟩
      · rw [hbx s hs] at h1
        rw [hρ s hs] at h2
        exact .inr ⟨by simp [hs], h2 ▸ blk_inl_mk (G := G) (σ := σ) h1⟩
    | inr g =>
      obtain ⟨n, k', h1, h2, h3⟩ := blk_inr hx
      exact .inr ⟨by simp, blk_inr_mk (G := G) (σ := σ) h1 h2 h3⟩
  refine ⟨G', h.mem rfl (Ext.refl _ _) h.kok (fun _ _ _ => rfl) (Keep.refl _ _) hmb hmt (fun s cs' hs => ?_) (fun g n k' hg => h.rows g n k' hg) (fun x y c hx hy => ?_) (fun s cs' hs => ?_) (fun x c hx => ?_), rfl, rfl, hρ0, hmono, fun x c hx => ?_⟩
  · by_cases hs0 : s = d
    · subst hs0
      rw [hbx0] at hs
      simp only [Option.some.injEq] at hs
      subst hs
      refine ⟨vs, e, by rw [hρ0]; exact hg, hl, fun i c hi => ?_⟩
      obtain ⟨v, h1, h2, h3⟩ := hc i c hi
      exact ⟨v, h1, h2, hmono v c h3⟩
    · rw [hbx s hs0] at hs
      exact (h.boxes s cs' hs).kept (hρ s hs0) rfl hmono
  · rcases hblk x c hx with ⟨rfl, rfl⟩ | ⟨h1, h1'⟩ <;> rcases hblk y _ hy with ⟨rfl, h2⟩ | ⟨h2, h2'⟩
    · rfl
    · exact absurd h2' (hfree y)
    · subst h2
      exact absurd h1' (hfree x)
    · exact h.disj x y c h1' h2'
  · by_cases hs0 : s = d
    · subst hs0
      rw [hρ0]
      exact hK
    · rw [hbx s hs0] at hs
      rw [hρ s hs0]
      exact h.boxK s cs' hs
  · rcases hblk x c hx with ⟨rfl, rfl⟩ | ⟨h1, h1'⟩
    · exact hmine
    · exact h.mine x c h1'
  · rcases hblk x c hx with ⟨rfl, rfl⟩ | ⟨h1, h1'⟩
    · exact .inl rfl
    · exact .inr h1'

/-- A variable's cells are told anew; memory is as it is. -/
theorem Rel.reBox (h : Rel F G σ a w) {s0 : Nat} {cs0 cs : List IV} (hs0 : σ.box s0 = some cs0) {vs : Array Value} {e : TypeId} (hg : w.heap[G.ρ s0]? = some (.cells vs e (0, 0))) (hl : cs.length ≤ vs.size)
    (hc : ∀ (i : Nat) (c : IV), cs[i]? = some c → ∃ v, vs[i]? = some v ∧ v.oneCell' = true ∧ IRel G σ.box σ.tl w v c) :
    Rel F G (σ.setB s0 cs) a w ∧ (∀ v x, IRel G σ.box σ.tl w v x → IRel G (σ.setB s0 cs).box (σ.setB s0 cs).tl w v x) ∧ (∀ x b, G.blk (σ.setB s0 cs) x = some b → G.blk σ x = some b) := by
  have hbx : ∀ s, s ≠ s0 → (σ.setB s0 cs).box s = σ.box s := fun s hs => by simp only [AS.setB, if_neg hs]
  have hbx0 : (σ.setB s0 cs).box s0 = some cs := by simp only [AS.setB, if_true]
  have hmb : ∀ s cs', σ.box s = some cs' → ∃ cs'', (σ.setB s0 cs).box s = some cs'' ∧ G.ρ s = G.ρ s := by
    intro s cs' hs
    by_cases hne : s = s0
    · subst hne
      exact ⟨cs, hbx0, rfl⟩
    · exact ⟨cs', by rw [hbx s hne]; exact hs, rfl⟩
  have hmt : ∀ g n k', σ.tl g = some (n, k') → ∃ n' k'', (σ.setB s0 cs).tl g = some (n', k'') ∧ n ≤ n' ∧ (n = n' → k'.leq k'' (G.V g) (G.V g)) := fun g n k' hg => ⟨n, k', hg, Nat.le_refl _, fun _ => RK.leq_refl _ _⟩
  have hmono : ∀ v x, IRel G σ.box σ.tl w v x → IRel G (σ.setB s0 cs).box (σ.setB s0 cs).tl w v x := fun v x hv => hv.mono (Ext.refl _ _) hmb hmt
  have hblk : ∀ x b, G.blk (σ.setB s0 cs) x = some b → G.blk σ x = some b := by
    intro x b hx
    cases x with
    | inl s =>
      obtain ⟨cs', h1, h2⟩ := blk_inl hx
      by_cases hs : s = s0
      · subst hs
        exact h2 ▸ blk_inl_mk (G := G) (σ := σ) hs0
      · rw [hbx s hs] at h1
        exact h2 ▸ blk_inl_mk (G := G) (σ := σ) h1
    | inr g =>
      obtain ⟨n, k', h1, h2, h3⟩ := blk_inr hx
      exact blk_inr_mk (G := G) (σ := σ) h1 h2 h3
  refine ⟨h.mem rfl (Ext.refl _ _) h.kok (fun _ _ _ => rfl) (Keep.refl _ _) hmb hmt (fun s cs' hs => ?_) (fun g n k' hg => h.rows g n k' hg) (fun x y b hx hy => h.disj x y b (hblk x b hx) (hblk y b hy)) (fun s cs' hs => ?_) (fun x b hx => h.mine x b (hblk x b hx)), hmono, hblk⟩
  · by_cases hgg : s = s0
    · subst hgg
      rw [hbx0] at hs
      simp only [Option.some.injEq] at hs
      subst hs
      refine ⟨vs, e, hg, hl, fun i c hi => ?_⟩
      obtain ⟨v, h1, h2, h3⟩ := hc i c hi
      exact ⟨v, h1, h2, hmono v c h3⟩
    · rw [hbx s hgg] at hs
      exact (h.boxes s cs' hs).kept rfl rfl hmono
  · by_cases hgg : s = s0
    · subst hgg
      exact h.boxK s cs0 hs0
    · rw [hbx s hgg] at hs
      exact h.boxK s cs' hs

end

end Go.Proofs.Ytfhgjhchjekbgaa
set_option linter.unusedVariables false
set_option linter.unusedSimpArgs false
namespace Go.Proofs.Ytfhgjhchjekbgaa
open Go

section
variable {F : Fr} {G G' : Gh} {σ σh : AS} {a : Act} {w w' : World}

/-- The keys under which cells own rows. -/
def leafKeys (own : Bool) (x : IV) : List (Nat ⊕ Tag) :=
  match own, x with
  | true, .tip g _ _ => [.inr g]
  | _, _ => []

theorem tipsIn_keys : ∀ (fl : List Bool) (cs : List IV), (tipsIn fl cs).map Sum.inr = match fl, cs with
    | b :: bs, x :: xs => leafKeys b x ++ (tipsIn bs xs).map Sum.inr
    | _, _ => ([] : List (Nat ⊕ Tag))
  | [], cs => by cases cs <;> simp [tipsIn]
  | b :: bs, [] => by cases b <;> simp [tipsIn]
  | b :: bs, x :: xs => by cases b <;> cases x <;> simp [tipsIn, leafKeys]

theorem blk_tip {g : Tag} {n m sz : Nat} (h : σ.tl g = some (n, .tip m sz)) : [Sum.inr g].filterMap (G.blk σ) = (G.V g).ownBlock.toList := by
  have e : G.blk σ (.inr g) = (G.V g).ownBlock := by simp only [Gh.blk, h]
  cases h2 : (G.V g).ownBlock <;> simp [e, h2]
theorem blk_mo {g : Tag} {n sz : Nat} {es : List (List PV)} (h : σ.tl g = some (n, .mo sz es)) : [Sum.inr g].filterMap (G.blk σ) = (G.V g).ownBlock.toList := by
  have e : G.blk σ (.inr g) = (G.V g).ownBlock := by simp only [Gh.blk, h]
  cases h2 : (G.V g).ownBlock <;> simp [e, h2]

theorem leaf_rel (h : Rel F G σ a w) (hle : σh.le σ) {own : Bool} {v : Value} {x : IV} {o : OL} (hv : IRel G σ.box σ.tl w v x) (ho : x.leaf own σh = some o) : RepL G.K w v o ((leafKeys own x).filterMap (G.blk σ)) := by
  unfold IV.leaf at ho
  split at ho
  · rename_i g r xs
    cases own
    · simp only [Bool.false_eq_true, if_false, Option.some.injEq] at ho
      subst ho
      obtain ⟨_, _, h1, _⟩ := hv.inv_tip
      exact .fz h1
    · simp only [if_true] at ho
      split at ho
      case h_2 => cases ho
      rename_i r' n sz htl
      split at ho
      case isFalse => cases ho
      rename_i hc
      obtain ⟨rfl, rfl⟩ := hc
      simp only [Option.some.injEq] at ho
      subst ho
      have htl' := hle.tl _ _ htl
      obtain ⟨n1, k1, hrep, h2, h3, h4⟩ := hv.inv_tip
      rw [htl'] at h2
      simp only [Option.some.injEq, Prod.mk.injEq] at h2
      obtain ⟨rfl, rfl⟩ := h2
      obtain ⟨hxe, _, hV⟩ := h4 rfl _ _ rfl
      obtain ⟨bl, hrow⟩ := h.rows g _ _ htl'
      have e : (leafKeys true (.tip g r xs)).filterMap (G.blk σ) = bl := by
        rw [show leafKeys true (.tip g r xs) = [.inr g] from rfl, blk_tip htl', hrow.own]
      rw [e, hV rfl]
      rw [hV rfl] at hrep
      exact .ow hrep hrow hxe
  · rename_i sz
    have e := hv.inv_nil
    subst e
    cases own
    · simp only [Bool.false_eq_true, if_false, Option.some.injEq] at ho
      subst ho
      exact .fz (.slice0 _ _)
    · simp only [if_true, Option.some.injEq] at ho
      subst ho
      exact .ow (.slice0 _ _) (.nil sz) (by simp)
  · rename_i v'
    cases own
    · simp only [Bool.false_eq_true, if_false, Option.some.injEq] at ho
      subst ho
      exact .fz hv.inv_p
    · simp at ho
  · cases ho

theorem leaves_rel (h : Rel F G σ a w) (hle : σh.le σ) : ∀ {fl : List Bool} {cs : List IV} {os : List OL} {vs : List Value}, leaves σh fl cs = some os →
    (∀ (i : Nat) (c : IV), cs[i]? = some c → ∃ v, vs[i]? = some v ∧ v.oneCell' = true ∧ IRel G σ.box σ.tl w v c) →
    os.length = cs.length ∧ RepC G.K w (vs.take cs.length) os (((tipsIn fl cs).map Sum.inr).filterMap (G.blk σ))
  | [], [], os, vs, ho, _ => by
    simp only [leaves, Option.some.injEq] at ho
    subst ho
    refine ⟨rfl, ?_⟩
    simp only [List.length_nil, List.take_zero, tipsIn]
    exact .nil
  | [], _ :: _, _, _, ho, _ => by simp [leaves] at ho
  | _ :: _, [], _, _, ho, _ => by simp [leaves] at ho
  | b :: bs, x :: xs, os, vs, ho, hc => by
    simp only [leaves] at ho
    split at ho
    case h_2 => cases ho
    rename_i o os' h1 h2
    simp only [Option.some.injEq] at ho
    subst ho
    obtain ⟨v, h3, h4, h5⟩ := hc 0 x rfl
    cases vs with
    | nil => simp at h3
    | cons v' vs =>
      simp at h3
      subst h3
      obtain ⟨h6, h7⟩ := leaves_rel h hle (vs := vs) h2 (fun i c hi => by
        obtain ⟨u, h8⟩ := hc (i + 1) c (by simpa using hi)
        exact ⟨u, by simpa using h8⟩)
      refine ⟨by simp [h6], ?_⟩
      rw [tipsIn_keys, List.filterMap_append, List.length_cons, List.take_succ_cons]
      exact .cons (leaf_rel h hle h5 h1) h4 h7

theorem fz_rel {bx : Nat → Option (List IV)} {tl : Tag → Option (Nat × RK)} {v : Value} {x : IV} {y : PV} (h : IRel G bx tl w v x) (hy : x.fz = some y) : Rep G.K w v y := by
  unfold IV.fz at hy
  split at hy
  · rename_i cs
    rw [Option.map_eq_some_iff] at hy
    obtain ⟨e, he, rfl⟩ := hy
    obtain ⟨vs, f, rfl, hl, hc, h1, hr⟩ := h.inv_agg
    obtain ⟨h3, h4⟩ := fzL_get he
    have key : ∀ (i : Nat) (c : PV), e[i]? = some c → ∃ d, cs[i]? = some d ∧ d.fz0 = some c := fun i c hi => by
      have hlt := lt_of_getElem? hi
      have hx : cs[i]? = some (cs[i]'(by omega)) := by simp
      exact ⟨_, hx, h4 i _ c hx hi⟩
    refine .agg vs e f (by omega) (fun i c hi => ?_) (fun i c hi => ?_) (fun i c hi => ?_)
    all_goals obtain ⟨d, h5, h6⟩ := key i c hi
    · exact hc i d h5
    · exact h1 i d h5
    · exact fz0_rel (hr i d h5) h6
  · rename_i f
    simp only [Option.some.injEq] at hy
    subst hy
    obtain ⟨vs, f', rfl, hl, hc, hr⟩ := h.inv_clo
    exact .clo f vs [] f' hl (by simp) (by simp)
  · exact fz0_rel h hy

/-- The keys of one argument. -/
def argKeys (σ : AS) (m : Mode) (x : IV) : List (Nat ⊕ Tag) :=
  match m, x with
  | .ow, .tip g _ _ => [.inr g]
  | .ag fl, .agg cs => (tipsIn fl cs).map .inr
  | .io fl, .ptr s _ => (match σ.box s with
    | some cs => .inl s :: (tipsIn fl cs).map .inr
    | none => [])
  | .mu, .mo g _ => [.inr g]
  | _, _ => []
theorem keysOf_cons (σ : AS) (x : Opd) (m : Mode) (r : List (Opd × Mode)) : keysOf σ ((x, m) :: r) = argKeys σ m (σ.val x) ++ keysOf σ r := by
  rfl

theorem tipsIn_p : ∀ (fl : List Bool) (cs : List PV), tipsIn fl (cs.map .p) = []
  | [], cs => by cases cs <;> simp [tipsIn]
  | b :: bs, [] => by cases b <;> simp [tipsIn]
  | b :: bs, x :: xs => by cases b <;> simp [tipsIn, tipsIn_p bs xs]

theorem argOf_rel (h : Rel F G σ a w) (hle : σh.le σ) {m : Mode} (hm : m ≠ .cz) {v : Value} {x : IV} {o : OV} (hv : IRel G σ.box σ.tl w v x) (ho : argOf σh x m = some o) : RepO G.K w v o ((argKeys σh m x).filterMap (G.blk σ)) := by
  cases m with
  | cz => exact absurd rfl hm
  | fz =>
    simp only [argOf] at ho
    rw [Option.map_eq_some_iff] at ho
    obtain ⟨y, hy, rfl⟩ := ho
    exact .l (.fz (fz_rel hv hy))
  | ow =>
    simp only [argOf] at ho
    rw [Option.map_eq_some_iff] at ho
    obtain ⟨y, hy, rfl⟩ := ho
    have := leaf_rel h hle hv hy
    have e : argKeys σh .ow x = leafKeys true x := by cases x <;> rfl
    rw [e]
    exact .l this
  | ag fl =>
    simp only [argOf] at ho
    split at ho
    case h_2 => cases ho
    rename_i cs hcs
    rw [Option.map_eq_some_iff] at ho
    obtain ⟨y, hy, rfl⟩ := ho
    unfold IV.aggs at hcs
    split at hcs
    · rename_i cs0
      simp only [Option.some.injEq] at hcs
      subst hcs
      obtain ⟨vs, f, rfl, hl, hc, h1, hr⟩ := hv.inv_agg
      obtain ⟨h2, h3⟩ := leaves_rel h hle (vs := vs.toList) hy (fun i c hi => ⟨f i, by simpa using hc i c hi, h1 i c hi, hr i c hi⟩)
      rw [List.take_of_length_le (by simp; omega)] at h3
      exact .agg h3
    · rename_i cs0
      simp only [Option.some.injEq] at hcs
      subst hcs
      obtain ⟨vs, f, rfl, hl, hc, h1, hr⟩ := hv.inv_p.inv_agg
      obtain ⟨h2, h3⟩ := leaves_rel h hle (vs := vs.toList) hy (fun i c hi => by
        rw [List.getElem?_map, Option.map_eq_some_iff] at hi
        obtain ⟨c0, h5, rfl⟩ := hi
        exact ⟨f i, by simpa using hc i c0 h5, h1 i c0 h5, .p (hr i c0 h5)⟩)
      rw [List.take_of_length_le (by simp; omega), tipsIn_p] at h3
      exact .agg h3
    · cases hcs
  | io fl =>
    simp only [argOf] at ho
    split at ho
    case h_2 => cases ho
    rename_i s
    split at ho
    case h_2 => cases ho
    rename_i cs hcs
    rw [Option.map_eq_some_iff] at ho
    obtain ⟨y, hy, rfl⟩ := ho
    have hcs' := hle.box _ _ hcs
    obtain ⟨rfl, _⟩ := hv.inv_ptr
    obtain ⟨vs, e, hg, hl, hc⟩ := h.boxes s cs hcs'
    obtain ⟨h2, h3⟩ := leaves_rel h hle (vs := vs.toList) hy (fun i c hi => by
      obtain ⟨u, h4, h5⟩ := hc i c hi
      exact ⟨u, by simpa using h4, h5⟩)
    simp only [argKeys, hcs]
    rw [List.filterMap_cons, blk_inl_mk (G := G) hcs']
    rw [← h2] at h3
    exact .ptr hg (h.boxK s cs hcs') (by omega) h3
  | mu =>
    simp only [argOf] at ho
    rw [Option.map_eq_some_iff] at ho
    obtain ⟨y, hy, rfl⟩ := ho
    unfold IV.moLeaf at hy
    split at hy
    case h_2 => cases hy
    rename_i g r
    split at hy
    case h_2 => cases hy
    rename_i r' sz es htl
    split at hy
    case isFalse => cases hy
    rename_i hc
    subst hc
    simp only [Option.some.injEq] at hy
    subst hy
    have htl' := hle.tl _ _ htl
    have e1 := hv.inv_mo htl'
    obtain ⟨bl, hrow⟩ := h.rows g _ _ htl'
    have e2 : (argKeys σh .mu (.mo g r)).filterMap (G.blk σ) = bl := by
      rw [show argKeys σh .mu (.mo g r) = [.inr g] from rfl, blk_mo htl', hrow.own_mu]
    rw [e2, e1]
    exact .l hrow

def noCz (args : List (Opd × Mode)) : Prop := ∀ x ∈ args, x.2 ≠ .cz
def argsOK : List Operand → List (Opd × Mode) → Bool
  | [], [] => true
  | y :: ys, (x, _) :: xs => opdOK y x && argsOK ys xs
  | _, _ => false

theorem args_rel (h : Rel F G σ a w) (hle : σh.le σ) : ∀ {ys : List Operand} {args : List (Opd × Mode)} {os : List OV}, argsOK ys args = true → noCz args → argsOf σh args = some os →
    RepOs G.K w (ys.map a.eval) os ((keysOf σh args).filterMap (G.blk σ))
  | [], [], os, _, _, ho => by
    simp only [argsOf, Option.some.injEq] at ho
    subst ho
    exact .nil
  | [], _ :: _, _, hk, _, _ => by simp [argsOK] at hk
  | _ :: _, [], _, hk, _, _ => by simp [argsOK] at hk
  | y :: ys, (x, m) :: args, os, hk, hc, ho => by
    simp only [argsOK, Bool.and_eq_true] at hk
    simp only [argsOf] at ho
    split at ho
    case h_2 => cases ho
    rename_i o os' h1 h2
    simp only [Option.some.injEq] at ho
    subst ho
    rw [keysOf_cons, List.filterMap_append, List.map_cons]
    have hx := opd_rel h hk.1
    rw [← hle.val] at hx
    exact .cons (argOf_rel h hle (hc (x, m) (by simp)) hx h1) (args_rel h hle hk.2 (fun z hz => hc z (by simp [hz])) h2)

/-- What comes back in place are these values. -/
def siteVal (G : Gh) : Nat ⊕ Tag × Nat → Value
  | .inl s => .pointer (some ⟨G.ρ s, 0, none⟩)
  | .inr (g, _) => G.V g
def argSites (m : Mode) (x : IV) : List (Nat ⊕ Tag × Nat) :=
  match m, x with
  | .io _, .ptr s _ => [.inl s]
  | .mu, .mo g n => [.inr (g, n)]
  | _, _ => []
theorem sitesOf_cons (σ : AS) (x : Opd) (m : Mode) (r : List (Opd × Mode)) : sitesOf σ ((x, m) :: r) = argSites m (σ.val x) ++ sitesOf σ r := by
  rfl

theorem sites_rel (h : Rel F G σ a w) (hle : σh.le σ) : ∀ {ys : List Operand} {args : List (Opd × Mode)} {os : List OV}, argsOK ys args = true → noCz args → argsOf σh args = some os →
    ptrArgs (ys.map a.eval) os = (sitesOf σh args).map (siteVal G) ∧ (∀ s, .inl s ∈ sitesOf σh args → .inl s ∈ keysOf σh args ∧ ∃ cs, σh.box s = some cs) ∧
      (∀ g n, .inr (g, n) ∈ sitesOf σh args → .inr g ∈ keysOf σh args ∧ ∃ sz es, σ.tl g = some (n, .mo sz es))
  | [], [], os, _, _, ho => by
    simp only [argsOf, Option.some.injEq] at ho
    subst ho
    exact ⟨rfl, by simp [sitesOf], by simp [sitesOf]⟩
  | [], _ :: _, _, hk, _, _ => by simp [argsOK] at hk
  | _ :: _, [], _, hk, _, _ => by simp [argsOK] at hk
  | y :: ys, (x, m) :: args, os, hk, hc, ho => by
    simp only [argsOK, Bool.and_eq_true] at hk
    simp only [argsOf] at ho
    split at ho
    case h_2 => cases ho
    rename_i o os' h1 h2
    simp only [Option.some.injEq] at ho
    subst ho
    obtain ⟨i1, i2, i3⟩ := sites_rel h hle hk.2 (fun z hz => hc z (by simp [hz])) h2
    rw [sitesOf_cons, keysOf_cons, List.map_cons, List.map_append]
    have hx := opd_rel h hk.1
    rw [← hle.val] at hx
    have hm := hc (x, m) (by simp)
    have key : (argSites m (σh.val x) = [] ∧ ptrArgs (a.eval y :: ys.map a.eval) (o :: os') = ptrArgs (ys.map a.eval) os') ∨
        (∃ s cs, argSites m (σh.val x) = [.inl s] ∧ .inl s ∈ argKeys σh m (σh.val x) ∧ σh.box s = some cs ∧ ptrArgs (a.eval y :: ys.map a.eval) (o :: os') = .pointer (some ⟨G.ρ s, 0, none⟩) :: ptrArgs (ys.map a.eval) os') ∨
        (∃ g n sz es, argSites m (σh.val x) = [.inr (g, n)] ∧ .inr g ∈ argKeys σh m (σh.val x) ∧ σ.tl g = some (n, .mo sz es) ∧ ptrArgs (a.eval y :: ys.map a.eval) (o :: os') = G.V g :: ptrArgs (ys.map a.eval) os') := by
      cases m with
      | cz => exact absurd rfl hm
      | fz =>
        simp only [argOf] at h1
        rw [Option.map_eq_some_iff] at h1
        obtain ⟨z, _, rfl⟩ := h1
        exact .inl ⟨rfl, rfl⟩
      | ow =>
        simp only [argOf] at h1
        rw [Option.map_eq_some_iff] at h1
        obtain ⟨z, hz, rfl⟩ := h1
        refine .inl ⟨rfl, ?_⟩
        unfold IV.leaf at hz
        split at hz
        · simp only [if_true] at hz
          split at hz
          · split at hz
            · simp only [Option.some.injEq] at hz
              subst hz
              rfl
            · cases hz
          · cases hz
        · simp only [if_true, Option.some.injEq] at hz
          subst hz
          rfl
        · simp at hz
        · cases hz
      | ag fl =>
        simp only [argOf] at h1
        split at h1
        case h_2 => cases h1
        rw [Option.map_eq_some_iff] at h1
        obtain ⟨z, _, rfl⟩ := h1
        exact .inl ⟨rfl, rfl⟩
      | io fl =>
        simp only [argOf] at h1
        split at h1
        case h_2 => cases h1
        rename_i s heq
        split at h1
        case h_2 => cases h1
        rename_i cs hcs
        rw [Option.map_eq_some_iff] at h1
        obtain ⟨z, _, rfl⟩ := h1
        rw [heq] at hx ⊢
        obtain ⟨e1, _⟩ := hx.inv_ptr
        refine .inr (.inl ⟨s, cs, rfl, ?_, hcs, ?_⟩)
        · simp [argKeys, hcs]
        · simp only [ptrArgs, e1]
      | mu =>
        simp only [argOf] at h1
        rw [Option.map_eq_some_iff] at h1
        obtain ⟨z, hz, rfl⟩ := h1
        unfold IV.moLeaf at hz
        split at hz
        case h_2 => cases hz
        rename_i g r heq
        split at hz
        case h_2 => cases hz
        rename_i r' sz es htl
        split at hz
        case isFalse => cases hz
        rename_i hcc
        subst hcc
        simp only [Option.some.injEq] at hz
        subst hz
        rw [heq] at hx ⊢
        have htl' := hle.tl _ _ htl
        refine .inr (.inr ⟨g, r, sz, es, rfl, by simp [argKeys], htl', ?_⟩)
        simp only [ptrArgs, hx.inv_mo htl']
    rcases key with ⟨e1, e2⟩ | ⟨s, cs, e1, e2, e3, e4⟩ | ⟨g, n, sz, es, e1, e2, e3, e4⟩
    · rw [e1, e2, i1]
      refine ⟨rfl, fun s hs => ?_, fun g n hg => ?_⟩
      · obtain ⟨h3, h4⟩ := i2 s (by simpa using hs)
        exact ⟨List.mem_append_right _ h3, h4⟩
      · obtain ⟨h3, h4⟩ := i3 g n (by simpa using hg)
        exact ⟨List.mem_append_right _ h3, h4⟩
    · rw [e1, e4, i1]
      refine ⟨rfl, fun s' hs => ?_, fun g n hg => ?_⟩
      · simp only [List.cons_append, List.nil_append, List.mem_cons, Sum.inl.injEq] at hs
        rcases hs with rfl | hs
        · exact ⟨List.mem_append_left _ e2, cs, e3⟩
        · obtain ⟨h3, h4⟩ := i2 s' hs
          exact ⟨List.mem_append_right _ h3, h4⟩
      · obtain ⟨h3, h4⟩ := i3 g n (by simpa using hg)
        exact ⟨List.mem_append_right _ h3, h4⟩
    · rw [e1, e4, i1]
      refine ⟨rfl, fun s hs => ?_, fun g' n' hg => ?_⟩
      · obtain ⟨h3, h4⟩ := i2 s (by simpa using hs)
        exact ⟨List.mem_append_right _ h3, h4⟩
      · simp only [List.cons_append, List.nil_append, List.mem_cons, Sum.inr.injEq, Prod.mk.injEq] at hg
        rcases hg with ⟨rfl, rfl⟩ | hg
        · exact ⟨List.mem_append_left _ e2, sz, es, e3⟩
        · obtain ⟨h3, h4⟩ := i3 g' n' hg
          exact ⟨List.mem_append_right _ h3, h4⟩

end

end Go.Proofs.Ytfhgjhchjekbgaa
set_option linter.unusedVariables false
set_option linter.unusedSimpArgs false
namespace Go.Proofs.Ytfhgjhchjekbgaa
open Go

theorem setLs_append : ∀ (l m : List (Tag × Nat × RK)) (σ : AS), σ.setLs (l ++ m) = (σ.setLs l).setLs m
  | [], m, σ => rfl
  | (g, x) :: l, m, σ => by simp only [List.cons_append, AS.setLs]; exact setLs_append l m _
theorem setBs_append : ∀ (l m : List (Nat × List IV)) (σ : AS), σ.setBs (l ++ m) = (σ.setBs l).setBs m
  | [], m, σ => rfl
  | (g, x) :: l, m, σ => by simp only [List.cons_append, AS.setBs]; exact setBs_append l m _
theorem setLs_setBs : ∀ (b : List (Nat × List IV)) (l : List (Tag × Nat × RK)) (σ : AS), (σ.setBs b).setLs l = (σ.setLs l).setBs b
  | [], l, σ => rfl
  | (s, c) :: b, l, σ => by
    simp only [AS.setBs]
    rw [setLs_setBs b l, setLs_setB]
theorem setBs_tmp : ∀ (b : List (Nat × List IV)) (σ : AS), (σ.setBs b).tmp = σ.tmp
  | [], σ => rfl
  | (s, c) :: b, σ => by
    simp only [AS.setBs]
    rw [setBs_tmp b]
    rfl
theorem setBs_tl : ∀ (b : List (Nat × List IV)) (σ : AS), (σ.setBs b).tl = σ.tl
  | [], σ => rfl
  | (s, c) :: b, σ => by
    simp only [AS.setBs]
    rw [setBs_tl b]
    rfl
theorem setBs_other : ∀ (b : List (Nat × List IV)) (σ : AS) (s : Nat), (∀ y ∈ b, y.1 ≠ s) → (σ.setBs b).box s = σ.box s
  | [], σ, s, _ => rfl
  | (s', c) :: b, σ, s, h => by
    simp only [AS.setBs]
    rw [setBs_other b _ s (fun y hy => h y (by simp [hy]))]
    have : s' ≠ s := h (s', c) (by simp)
    simp only [AS.setB]
    rw [if_neg (fun e => this e.symm)]
theorem setBs_congr : ∀ (b : List (Nat × List IV)) (σ σ' : AS), σ.tmp = σ'.tmp → σ.tl = σ'.tl → (∀ s, (∀ y ∈ b, y.1 ≠ s) → σ.box s = σ'.box s) → σ.setBs b = σ'.setBs b
  | [], σ, σ', h1, h2, h3 => by
    cases σ
    cases σ'
    simp only [AS.setBs, AS.mk.injEq]
    exact ⟨h1, funext fun s => h3 s (by simp), h2⟩
  | (s', c) :: b, σ, σ', h1, h2, h3 => by
    simp only [AS.setBs]
    refine setBs_congr b _ _ h1 h2 fun s hs => ?_
    simp only [AS.setB]
    split
    · rfl
    · rename_i hne
      exact h3 s fun y hy => by
        rcases List.mem_cons.1 hy with rfl | hy
        · exact fun e => hne e.symm
        · exact hs y hy
theorem setBs_absorb (b : List (Nat × List IV)) (σ : AS) : (σ.setBs (b.map fun y => (y.1, []))).setBs b = σ.setBs b := by
  refine setBs_congr b _ _ (setBs_tmp _ _) (setBs_tl _ _) fun s hs => setBs_other _ _ s fun y hy => ?_
  obtain ⟨z, hz, rfl⟩ := List.mem_map.1 hy
  exact hs z hz
theorem setBs_cases : ∀ (b : List (Nat × List IV)) (σ : AS) (s : Nat), ((∀ x ∈ b, x.1 ≠ s) ∧ (σ.setBs b).box s = σ.box s) ∨ ∃ x ∈ b, x.1 = s ∧ (σ.setBs b).box s = some x.2
  | [], σ, s => .inl ⟨by simp, rfl⟩
  | (s', c) :: b, σ, s => by
    simp only [AS.setBs]
    rcases setBs_cases b (σ.setB s' c) s with ⟨h1, h2⟩ | ⟨x, h1, h2, h3⟩
    · by_cases e : s = s'
      · subst e
        exact .inr ⟨(s, c), by simp, rfl, by rw [h2]; simp [AS.setB]⟩
      · refine .inl ⟨fun x hx => ?_, by rw [h2]; simp [AS.setB, e]⟩
        rcases List.mem_cons.1 hx with rfl | hx
        · exact fun e1 => e e1.symm
        · exact h1 x hx
    · exact .inr ⟨x, by simp [h1], h2, h3⟩
theorem setLs_cases : ∀ (l : List (Tag × Nat × RK)) (σ : AS) (g : Tag), ((∀ x ∈ l, x.1 ≠ g) ∧ (σ.setLs l).tl g = σ.tl g) ∨ ∃ x ∈ l, x.1 = g ∧ (σ.setLs l).tl g = some x.2
  | [], σ, g => .inl ⟨by simp, rfl⟩
  | (g', c) :: b, σ, g => by
    simp only [AS.setLs]
    rcases setLs_cases b (σ.setL g' c) g with ⟨h1, h2⟩ | ⟨x, h1, h2, h3⟩
    · by_cases e : g = g'
      · subst e
        exact .inr ⟨(g, c), by simp, rfl, by rw [h2]; simp [AS.setL]⟩
      · refine .inl ⟨fun x hx => ?_, by rw [h2]; simp [AS.setL, e]⟩
        rcases List.mem_cons.1 hx with rfl | hx
        · exact fun e1 => e e1.symm
        · exact h1 x hx
    · exact .inr ⟨x, by simp [h1], h2, h3⟩

section
variable {F : Fr} {G G' : Gh} {σ σh : AS} {a : Act} {w w' : World}

/-- Memory has changed in the blocks that were handed over, and nowhere else. -/
theorem Rel.called (h : Rel F G σ a w) {K' : Nat → Nat} {keys : List (Nat ⊕ Tag)} {bs : List Nat} (hbs : bs = keys.filterMap (G.blk σ))
    (hk : Keep (· ∈ bs) w w') (hkok : KOK K' w') (hext : Ext G.K K' w w') (hkb : ∀ b, b < w.heap.size → b ∉ bs → K' b = G.K b)
    {bxs : List (Nat × List IV)} {ls : List (Tag × Nat × RK)}
    (hbx : ∀ x ∈ bxs, x.2 = [] ∧ (∃ cs, σ.box x.1 = some cs) ∧ ∃ vs e, w'.heap[G.ρ x.1]? = some (.cells vs e (0, 0)) ∧ K' (G.ρ x.1) = 0)
    (hls : ∀ x ∈ ls, (x.2.2 = .spent ∧ ∀ n k, σ.tl x.1 = some (n, k) → n < x.2.1) ∨ (∃ sz es sz' es', x.2.2 = .mo sz es ∧ σ.tl x.1 = some (x.2.1, .mo sz' es') ∧ RowOK K' w' (G.V x.1) x.2.2))
    (hall : ∀ y ∈ keys, (∃ s, y = .inl s ∧ ∃ x ∈ bxs, x.1 = s) ∨ (∃ g, y = .inr g ∧ ∃ x ∈ ls, x.1 = g)) :
    Rel F { G with K := K' } ((σ.setBs bxs).setLs ls) a w' ∧ (∀ v x, IRel G σ.box σ.tl w v x → IRel { G with K := K' } ((σ.setBs bxs).setLs ls).box ((σ.setBs bxs).setLs ls).tl w' v x) ∧
      (∀ x b, ({ G with K := K' } : Gh).blk ((σ.setBs bxs).setLs ls) x = some b → G.blk σ x = some b ∧ (∀ g, x = .inr g → (∀ z ∈ ls, z.1 ≠ g) ∨ ∃ z ∈ ls, z.1 = g ∧ z.2.2 ≠ .spent)) := by
  have hbox : ∀ s, ((σ.setBs bxs).setLs ls).box s = (σ.setBs bxs).box s := fun s => by rw [setLs_box]
  have htl : ∀ g, ((σ.setBs bxs).setLs ls).tl g = (σ.setLs ls).tl g := fun g => by rw [setLs_setBs, setBs_tl]
  have hmb : ∀ s cs, σ.box s = some cs → ∃ cs', ((σ.setBs bxs).setLs ls).box s = some cs' ∧ ({ G with K := K' } : Gh).ρ s = G.ρ s := by
    intro s cs hs
    rw [hbox]
    rcases setBs_cases bxs σ s with ⟨_, h2⟩ | ⟨x, _, _, h3⟩
    · exact ⟨cs, by rw [h2]; exact hs, rfl⟩
    · exact ⟨_, h3, rfl⟩
  have hmt : ∀ g n k, σ.tl g = some (n, k) → ∃ n' k', ((σ.setBs bxs).setLs ls).tl g = some (n', k') ∧ n ≤ n' ∧ (n = n' → k.leq k' (G.V g) (G.V g)) := by
    intro g n k hg
    rw [htl]
    rcases setLs_cases ls σ g with ⟨_, h2⟩ | ⟨x, h1, rfl, h3⟩
    · exact ⟨n, k, by rw [h2]; exact hg, Nat.le_refl _, fun _ => RK.leq_refl _ _⟩
    · rcases hls x h1 with ⟨h4, h5⟩ | ⟨sz, es, sz', es', h4, h5, _⟩
      · have := h5 n k hg
        exact ⟨x.2.1, x.2.2, h3, Nat.le_of_lt this, fun e => absurd e (Nat.ne_of_lt this)⟩
      · rw [hg] at h5
        simp only [Option.some.injEq, Prod.mk.injEq] at h5
        obtain ⟨rfl, rfl⟩ := h5
        refine ⟨_, _, h3, Nat.le_refl _, fun _ => ?_⟩
        rw [h4]
        exact ⟨⟨sz', es', rfl⟩, rfl⟩
  have hmono : ∀ v x, IRel G σ.box σ.tl w v x → IRel { G with K := K' } ((σ.setBs bxs).setLs ls).box ((σ.setBs bxs).setLs ls).tl w' v x := fun v x hv => hv.mono hext hmb hmt
  have hblk : ∀ x b, ({ G with K := K' } : Gh).blk ((σ.setBs bxs).setLs ls) x = some b → G.blk σ x = some b ∧ (∀ g, x = .inr g → (∀ z ∈ ls, z.1 ≠ g) ∨ ∃ z ∈ ls, z.1 = g ∧ z.2.2 ≠ .spent) := by
    intro x b hx
    cases x with
    | inl s =>
      obtain ⟨cs, h1, h2⟩ := blk_inl hx
      refine ⟨?_, fun g hg => by cases hg⟩
      rw [hbox] at h1
      rcases setBs_cases bxs σ s with ⟨_, h4⟩ | ⟨y, h3, rfl, h4⟩
      · rw [h4] at h1
        exact h2 ▸ blk_inl_mk (G := G) (σ := σ) h1
      · obtain ⟨_, ⟨cs', h5⟩, _⟩ := hbx y h3
        exact h2 ▸ blk_inl_mk (G := G) (σ := σ) h5
    | inr g =>
      obtain ⟨n, k', h1, h2, h3⟩ := blk_inr hx
      rw [htl] at h1
      rcases setLs_cases ls σ g with ⟨h5, h4⟩ | ⟨y, h5, rfl, h4⟩
      · rw [h4] at h1
        exact ⟨blk_inr_mk h1 h2 h3, fun g' hg => by cases hg; exact .inl h5⟩
      · rw [h4] at h1
        simp only [Option.some.injEq] at h1
        rcases hls y h5 with ⟨h6, _⟩ | ⟨sz, es, sz', es', h6, h7, _⟩
        · rw [h1] at h6
          exact absurd h6 h2
        · exact ⟨blk_inr_mk h7 (by simp) h3, fun g' hg => by cases hg; exact .inr ⟨y, h5, rfl, by rw [h6]; simp⟩⟩
  have hmem : ∀ x b, G.blk σ x = some b → b ∈ bs → x ∈ keys := by
    intro x b hx hb
    rw [hbs, List.mem_filterMap] at hb
    obtain ⟨y, hy, hyb⟩ := hb
    rw [h.disj x y b hx hyb]
    exact hy
  have hmine : ∀ b ∈ bs, b ∈ F.T ∨ F.W0.heap.size ≤ b := by
    intro b hb
    rw [hbs, List.mem_filterMap] at hb
    obtain ⟨y, hy, hyb⟩ := hb
    exact h.mine y b hyb
  refine ⟨h.mem (by rw [setLs_tmp, setBs_tmp]) hext hkok (fun b hb hnT => hkb b (Nat.lt_of_lt_of_le hb h.keep.size) fun hbb => ?_) (hk.mono fun b _ hb => hmine b hb) hmb hmt (fun s cs hs => ?_) (fun g n k hg => ?_)
    (fun x y b hx hy => h.disj x y b (hblk x b hx).1 (hblk y b hy).1) (fun s cs hs => ?_) (fun x b hx => h.mine x b (hblk x b hx).1), hmono, hblk⟩
  · rcases hmine b hbb with h1 | h1
    · exact hnT h1
    · omega
  · rw [hbox] at hs
    rcases setBs_cases bxs σ s with ⟨h3, h4⟩ | ⟨y, h3, rfl, h4⟩
    · rw [h4] at hs
      have hnb : G.ρ s ∉ bs := fun hb => by
        rcases hall _ (hmem (.inl s) _ (blk_inl_mk hs) hb) with ⟨s', e, x, hx, e2⟩ | ⟨g, e, _⟩
        · cases e
          exact h3 x hx e2
        · cases e
      exact (h.boxes s cs hs).kept rfl (hk.block _ (h.blkLt (blk_inl_mk hs)) hnb) hmono
    · rw [h4] at hs
      obtain ⟨h5, _, vs, e, h6, _⟩ := hbx y h3
      simp only [Option.some.injEq] at hs
      rw [h5] at hs
      subst hs
      exact ⟨vs, e, h6, by simp, by simp⟩
  · rw [htl] at hg
    rcases setLs_cases ls σ g with ⟨h3, h4⟩ | ⟨y, h3, rfl, h4⟩
    · rw [h4] at hg
      refine (h.rows g n k hg).kept (fun hks b hb => ?_) hext
      have hb' := blk_inr_mk hg hks hb
      have hnb : b ∉ bs := fun hbb => by
        rcases hall _ (hmem (.inr g) _ hb' hbb) with ⟨s', e, _⟩ | ⟨g', e, x, hx, e2⟩
        · cases e
        · cases e
          exact h3 x hx e2
      have hlt := h.blkLt hb'
      exact ⟨hk.block _ hlt hnb, hkb _ hlt hnb⟩
    · rw [h4] at hg
      simp only [Option.some.injEq] at hg
      rcases hls y h3 with ⟨h5, _⟩ | ⟨_, _, _, _, _, _, h5⟩
      · rw [hg] at h5
        simp only at h5
        subst h5
        trivial
      · rw [hg] at h5
        exact h5
  · show K' (G.ρ s) = 0
    rw [hbox] at hs
    rcases setBs_cases bxs σ s with ⟨h3, h4⟩ | ⟨y, h3, rfl, h4⟩
    · rw [h4] at hs
      have hb' := blk_inl_mk (G := G) hs
      have hnb : G.ρ s ∉ bs := fun hb => by
        rcases hall _ (hmem (.inl s) _ hb' hb) with ⟨s', e, x, hx, e2⟩ | ⟨g, e, _⟩
        · cases e
          exact h3 x hx e2
        · cases e
      rw [hkb _ (h.blkLt hb') hnb]
      exact h.boxK s cs hs
    · obtain ⟨_, _, _, _, _, h6⟩ := hbx y h3
      exact h6

/-- Blocks that nobody owns. -/
def Free (F : Fr) (G : Gh) (σ : AS) (bl : List Nat) : Prop := ∀ b ∈ bl, (∀ x, G.blk σ x ≠ some b) ∧ (b ∈ F.T ∨ F.W0.heap.size ≤ b)
def Older (σ : AS) (l : List (Tag × Nat × RK)) : Prop := ∀ y ∈ l, ∀ n0 k0, σ.tl y.1 = some (n0, k0) → n0 < y.2.1

theorem attachL {v : Value} {o : OL} {bl : List Nat} {g : Tag} {n : Nat} (hr : RepL G.K w v o bl) (h : Rel F G σ a w) (hf : Free F G σ bl) (ho : Older σ (backL g n o).2) :
    ∃ G', Rel F G' (σ.setLs (backL g n o).2) a w ∧ G'.K = G.K ∧ G'.ρ = G.ρ ∧ (∀ v x, IRel G σ.box σ.tl w v x → IRel G' (σ.setLs (backL g n o).2).box (σ.setLs (backL g n o).2).tl w v x) ∧
      (∀ x b, G'.blk (σ.setLs (backL g n o).2) x = some b → b ∈ bl ∨ G.blk σ x = some b) ∧ IRel G' (σ.setLs (backL g n o).2).box (σ.setLs (backL g n o).2).tl w v (backL g n o).1 := by
  have mu : ∀ {sz : Nat} {xs : List (List PV)}, RepL G.K w v (.mu sz xs) bl → v.oneCell' = true → Older σ (backL g n (.mu sz xs)).2 →
      ∃ G', Rel F G' (σ.setLs (backL g n (.mu sz xs)).2) a w ∧ G'.K = G.K ∧ G'.ρ = G.ρ ∧ (∀ v x, IRel G σ.box σ.tl w v x → IRel G' (σ.setLs (backL g n (.mu sz xs)).2).box (σ.setLs (backL g n (.mu sz xs)).2).tl w v x) ∧
      (∀ x b, G'.blk (σ.setLs (backL g n (.mu sz xs)).2) x = some b → b ∈ bl ∨ G.blk σ x = some b) ∧ IRel G' (σ.setLs (backL g n (.mu sz xs)).2).box (σ.setLs (backL g n (.mu sz xs)).2).tl w v (backL g n (.mu sz xs)).1 := by
    intro sz xs hr h1 ho
    have hbl := hr.own_mu
    obtain ⟨G1, h2, h3, h4, h5, h6, h7⟩ := h.attach (g0 := g) (r := n) (k := .mo sz xs) (V' := v) (fun n0 k0 hg => ho (g, n, .mo sz xs) (by simp [backL]) n0 k0 hg) ⟨bl, hr⟩ (fun b hb => hf b (by rw [hbl, hb]; simp))
    refine ⟨G1, h2, h3, h4, h6, fun x b hx => ?_, .mo g n n (.mo sz xs) h1 (by simp [backL, AS.setLs, AS.setL]) (Nat.le_refl _) fun _ _ _ _ => h5.symm⟩
    rcases h7 x b hx with h8 | h8
    · exact .inl (by rw [hbl, h8]; simp)
    · exact .inr h8
  cases hr with
  | fz hv =>
    refine ⟨G, h, rfl, rfl, fun v x hv => hv, fun x b hx => .inr hx, .p hv⟩
  | ow hv ht hs =>
    rename_i sz xs
    have hbl := ht.own
    obtain ⟨G1, h2, h3, h4, h5, h6, h7⟩ := h.attach (g0 := g) (r := n) (k := .tip xs.length sz) (V' := v) (fun n0 k0 hg => ho (g, n, .tip xs.length sz) (by simp [backL]) n0 k0 hg) ⟨bl, ht⟩ (fun b hb => hf b (by rw [hbl, hb]; simp))
    refine ⟨G1, h2, h3, h4, h6, fun x b hx => ?_, .tip g n xs n (.tip xs.length sz) (by rw [h3]; exact hv) (by simp [backL, AS.setLs, AS.setL]) (Nat.le_refl _) fun _ m sz' hk => ?_⟩
    · rcases h7 x b hx with h8 | h8
      · exact .inl (by rw [hbl, h8]; simp)
      · exact .inr h8
    · cases hk
      exact ⟨hs, Nat.le_refl _, fun _ => h5.symm⟩
  | muNil sz => exact mu (.muNil sz) rfl ho
  | mu b n' cap sz cur e xs f hg hn hm hz h0 hK hl hs hc h1 hr' => exact mu (.mu b n' cap sz cur e xs f hg hn hm hz h0 hK hl hs hc h1 hr') rfl ho

theorem backC_tags (rev : Tag → Nat) (k d : Nat) : ∀ (cs : List OL) (i : Nat), ∀ y ∈ (backC rev k d i cs).2, ∃ j, i ≤ j ∧ y.1 = (k, d, j)
  | [], i, y, h => by simp [backC] at h
  | x :: xs, i, y, h => by
    simp only [backC, List.mem_append] at h
    rcases h with h | h
    · cases x <;> simp [backL] at h <;> exact ⟨i, Nat.le_refl _, by rw [h]⟩
    · obtain ⟨j, h1, h2⟩ := backC_tags rev k d xs (i + 1) y h
      exact ⟨j, by omega, h2⟩

theorem backL_tags (g : Tag) (n : Nat) (o : OL) : ∀ y ∈ (backL g n o).2, y.1 = g := by
  intro y h
  cases o <;> simp [backL] at h <;> rw [h]

theorem attachC (rev : Tag → Nat) (k d : Nat) : ∀ {vs : List Value} {cs : List OL} {bl : List Nat} (i : Nat) {G : Gh} {σ : AS}, RepC G.K w vs cs bl → Rel F G σ a w → bl.Nodup → Free F G σ bl → Older σ (backC rev k d i cs).2 →
    ∃ G', Rel F G' (σ.setLs (backC rev k d i cs).2) a w ∧ G'.K = G.K ∧ G'.ρ = G.ρ ∧ (∀ v x, IRel G σ.box σ.tl w v x → IRel G' (σ.setLs (backC rev k d i cs).2).box (σ.setLs (backC rev k d i cs).2).tl w v x) ∧
      (∀ x b, G'.blk (σ.setLs (backC rev k d i cs).2) x = some b → b ∈ bl ∨ G.blk σ x = some b) ∧ (backC rev k d i cs).1.length = vs.length ∧
      ∀ (j : Nat) (c : IV), (backC rev k d i cs).1[j]? = some c → ∃ v, vs[j]? = some v ∧ v.oneCell' = true ∧ IRel G' (σ.setLs (backC rev k d i cs).2).box (σ.setLs (backC rev k d i cs).2).tl w v c := by
  intro vs cs bl i G σ hr
  obtain ⟨K, hK⟩ : ∃ K, K = G.K := ⟨_, rfl⟩
  rw [← hK] at hr
  induction hr generalizing i G σ with
  | nil =>
    intro h _ _ _
    exact ⟨G, h, rfl, rfl, fun _ _ h => h, fun _ _ h => .inr h, rfl, by simp [backC]⟩
  | cons hl h1 hr ih =>
    rename_i v x b1 vs xs b2
    intro h hn hf ho
    subst hK
    have e0 : (backC rev k d i (x :: xs)).2 = (backL (k, d, i) (rev (k, d, i)) x).2 ++ (backC rev k d (i + 1) xs).2 := rfl
    have e1 : (backC rev k d i (x :: xs)).1 = (backL (k, d, i) (rev (k, d, i)) x).1 :: (backC rev k d (i + 1) xs).1 := rfl
    rw [List.nodup_append] at hn
    obtain ⟨hn1, hn2, hn3⟩ := hn
    obtain ⟨G1, g1, g2, g3, g4, g5, g6⟩ := attachL (g := (k, d, i)) (n := rev (k, d, i)) hl h (fun b hb => hf b (List.mem_append_left _ hb)) (fun y hy => ho y (by rw [e0]; exact List.mem_append_left _ hy))
    obtain ⟨G2, i1, i2, i3, i4, i5, i6, i7⟩ := ih (i + 1) g2.symm g1 hn2 (fun b hb => by
      obtain ⟨f1, f2⟩ := hf b (List.mem_append_right _ hb)
      refine ⟨fun z hz => ?_, f2⟩
      rcases g5 z b hz with h2 | h2
      · exact hn3 b h2 b hb rfl
      · exact f1 z h2) (fun y hy n0 k0 hy2 => by
      obtain ⟨j, hj, e⟩ := backC_tags rev k d xs (i + 1) y hy
      rw [setLs_tl_other _ _ _ (fun z hz => by rw [backL_tags _ _ _ z hz, e]; simp; omega)] at hy2
      exact ho y (by rw [e0]; exact List.mem_append_right _ hy) n0 k0 hy2)
    rw [e0, e1, setLs_append]
    refine ⟨G2, i1, i2.trans g2, i3.trans g3, fun v x hv => i4 v x (g4 v x hv), fun z b hz => ?_, by simp [i6], fun j c hj => ?_⟩
    · rcases i5 z b hz with h2 | h2
      · exact .inl (List.mem_append_right _ h2)
      · rcases g5 z b h2 with h3 | h3
        · exact .inl (List.mem_append_left _ h3)
        · exact .inr h3
    · cases j with
      | zero =>
        simp at hj
        subst hj
        exact ⟨v, rfl, h1, i4 _ _ g6⟩
      | succ j =>
        obtain ⟨u, h2, h3⟩ := i7 j c (by simpa using hj)
        exact ⟨u, by simpa using h2, h3⟩

end

end Go.Proofs.Ytfhgjhchjekbgaa
set_option linter.unusedVariables false
set_option linter.unusedSimpArgs false
namespace Go.Proofs.Ytfhgjhchjekbgaa
open Go

section
variable {F : Fr} {G G' : Gh} {σ σh : AS} {a : Act} {w w' : World}

/-- Names that are new. -/
structure Fresh (σ : AS) (bx : List (Nat × List IV)) (tls : List (Tag × Nat × RK)) : Prop where
  mk ::
  box : ∀ y ∈ bx, σ.box y.1 = none
  bnd : (bx.map (·.1)).Nodup
  tl : ∀ y ∈ tls, σ.tl y.1 = none
  tnd : (tls.map (·.1)).Nodup

theorem Fresh.older {bx : List (Nat × List IV)} {tls : List (Tag × Nat × RK)} (h : Fresh σ bx tls) : Older σ tls := fun y hy n0 k0 hg => by rw [h.tl y hy] at hg; cases hg

/-- What a part of a result leaves. -/
def Took (F : Fr) (G : Gh) (σ : AS) (a : Act) (w : World) (bl : List Nat) (bx : List (Nat × List IV)) (tls : List (Tag × Nat × RK)) (C : Gh → AS → Prop) : Prop :=
  ∃ G', Rel F G' ((σ.setBs bx).setLs tls) a w ∧ G'.K = G.K ∧ (∀ v x, IRel G σ.box σ.tl w v x → IRel G' ((σ.setBs bx).setLs tls).box ((σ.setBs bx).setLs tls).tl w v x) ∧
    (∀ x b, G'.blk ((σ.setBs bx).setLs tls) x = some b → b ∈ bl ∨ G.blk σ x = some b) ∧ C G' ((σ.setBs bx).setLs tls)

theorem attachO (d n : Nat) {v : Value} {o : OV} {bl : List Nat} (hr : RepO G.K w v o bl) (h : Rel F G σ a w) (hn : bl.Nodup) (hf : Free F G σ bl) (hfr : Fresh σ (backO d n o).bx (backO d n o).tls) :
    Took F G σ a w bl (backO d n o).bx (backO d n o).tls fun G' σ' => IRel G' σ'.box σ'.tl w v (backO d n o).v := by
  cases hr with
  | l hl =>
    obtain ⟨G1, g1, g2, g3, g4, g5, g6⟩ := attachL (g := (0, d, n)) (n := 0) hl h hf hfr.older
    exact ⟨G1, g1, g2, g4, g5, g6⟩
  | agg hc =>
    rename_i vs cs
    obtain ⟨G1, g1, g2, g3, g4, g5, g6, g7⟩ := attachC (fun _ => 0) 2 d n hc h hn hf hfr.older
    refine ⟨G1, g1, g2, g4, g5, .agg vs _ (fun i => (vs[i]?).getD undef) ?_ (fun i c hi => ?_) (fun i c hi => ?_) (fun i c hi => ?_)⟩
    · have : vs.toList.length = vs.size := rfl
      omega
    all_goals
      obtain ⟨u, h1, h2, h3⟩ := g7 i c hi
      rw [Array.getElem?_toList] at h1
    · simp [h1]
    · simp only [h1, Option.getD_some]; exact h2
    · simp only [h1, Option.getD_some]; exact h3
  | ptr hg hK hl hc =>
    rename_i b vs e cs bs
    rw [List.nodup_cons] at hn
    obtain ⟨G1, g1, g2, g3, g4, g5, g6, g7⟩ := attachC (fun _ => 0) 1 d 0 hc h hn.2 (fun c hc => hf c (by simp [hc])) hfr.older
    obtain ⟨f1, f2⟩ := hf b (by simp)
    have hlen : (backC (fun _ => 0) 1 d 0 cs).1.length ≤ vs.size := by
      rw [g6]
      simp
      omega
    obtain ⟨G2, i1, i2, i3, i4, i5, i6⟩ := g1.attachBox (d := d) (b := b) (by rw [setLs_box]; exact hfr.box (d, (backC (fun _ => 0) 1 d 0 cs).1) (by simp [backO])) hg (by rw [g2]; exact hK) (cs := (backC (fun _ => 0) 1 d 0 cs).1) hlen (fun i c hi => by
      obtain ⟨u, h1, h2⟩ := g7 i c hi
      rw [List.getElem?_take] at h1
      split at h1
      · exact ⟨u, by simpa using h1, h2⟩
      · cases h1) (fun x hx => by
      rcases g5 x b hx with h2 | h2
      · exact hn.1 h2
      · exact f1 x h2) f2
    have e1 : (σ.setBs (backO d n (.ptr cs)).bx).setLs (backO d n (.ptr cs)).tls = (σ.setLs (backC (fun _ => 0) 1 d 0 cs).2).setB d (backC (fun _ => 0) 1 d 0 cs).1 := by
      simp only [backO, AS.setBs]
      rw [setLs_setB]
    unfold Took
    rw [e1]
    refine ⟨G2, i1, i2.trans g2, fun v x hv => i5 v x (g4 v x hv), fun x c hx => ?_, ?_⟩
    · rcases i6 x c hx with rfl | h2
      · exact .inl (by simp)
      · rcases g5 x c h2 with h3 | h3
        · exact .inl (by simp [h3])
        · exact .inr h3
    · rw [← i4]
      exact .ptr d 0 (backC (fun _ => 0) 1 d 0 cs).1 (by simp [AS.setB])

theorem attachOs (d : Nat) : ∀ {vs : List Value} {os : List OV} {bl : List Nat} (n : Nat) {G : Gh} {σ : AS}, RepOs G.K w vs os bl → Rel F G σ a w → bl.Nodup → Free F G σ bl → Fresh σ (backOs d n os).2.1 (backOs d n os).2.2 →
    Took F G σ a w bl (backOs d n os).2.1 (backOs d n os).2.2 fun G' σ' => (backOs d n os).1.length = vs.length ∧ ∀ (j : Nat) (c : IV), (backOs d n os).1[j]? = some c → ∃ v, vs[j]? = some v ∧ IRel G' σ'.box σ'.tl w v c := by
  intro vs os bl n G σ hr
  obtain ⟨K, hK⟩ : ∃ K, K = G.K := ⟨_, rfl⟩
  rw [← hK] at hr
  induction hr generalizing n G σ with
  | nil =>
    intro h _ _ _
    exact ⟨G, h, rfl, fun _ _ h => h, fun _ _ h => .inr h, rfl, by simp [backOs]⟩
  | cons ho hr ih =>
    rename_i v x b1 vs xs b2
    intro h hn hf hfr
    subst hK
    have e0 : (backOs d n (x :: xs)).2.1 = (backO d n x).bx ++ (backOs d (n + 100) xs).2.1 := rfl
    have e1 : (backOs d n (x :: xs)).2.2 = (backO d n x).tls ++ (backOs d (n + 100) xs).2.2 := rfl
    have e2 : (backOs d n (x :: xs)).1 = (backO d n x).v :: (backOs d (n + 100) xs).1 := rfl
    rw [e0, e1] at hfr ⊢
    rw [e2]
    obtain ⟨q1, q2, q3, q4⟩ := hfr
    rw [List.map_append, List.nodup_append] at q2 q4
    rw [List.nodup_append] at hn
    obtain ⟨hn1, hn2, hn3⟩ := hn
    obtain ⟨G1, g1, g2, g4, g5, g6⟩ := attachO d n ho h hn1 (fun b hb => hf b (List.mem_append_left _ hb)) ⟨fun y hy => q1 y (List.mem_append_left _ hy), q2.1, fun y hy => q3 y (List.mem_append_left _ hy), q4.1⟩
    obtain ⟨G2, i1, i2, i4, i5, i6, i7⟩ := ih (n + 100) g2.symm g1 hn2 (fun b hb => by
      obtain ⟨f1, f2⟩ := hf b (List.mem_append_right _ hb)
      refine ⟨fun z hz => ?_, f2⟩
      rcases g5 z b hz with h2 | h2
      · exact hn3 b h2 b hb rfl
      · exact f1 z h2) ⟨fun y hy => by
        rw [setLs_box, setBs_other _ _ _ (fun z hz => q2.2.2 z.1 (List.mem_map.2 ⟨z, hz, rfl⟩) y.1 (List.mem_map.2 ⟨y, hy, rfl⟩))]
        exact q1 y (List.mem_append_right _ hy), q2.2.1, fun y hy => by
        rw [setLs_tl_other _ _ _ (fun z hz => q4.2.2 z.1 (List.mem_map.2 ⟨z, hz, rfl⟩) y.1 (List.mem_map.2 ⟨y, hy, rfl⟩)), setBs_tl]
        exact q3 y (List.mem_append_right _ hy), q4.2.1⟩
    have e3 : (σ.setBs ((backO d n x).bx ++ (backOs d (n + 100) xs).2.1)).setLs ((backO d n x).tls ++ (backOs d (n + 100) xs).2.2) =
        (((σ.setBs (backO d n x).bx).setLs (backO d n x).tls).setBs (backOs d (n + 100) xs).2.1).setLs (backOs d (n + 100) xs).2.2 := by
      rw [setBs_append, setLs_append, ← setLs_setBs]
    unfold Took
    rw [e3]
    refine ⟨G2, i1, i2.trans g2, fun v x hv => i4 v x (g4 v x hv), fun z b hz => ?_, by simp [i6], fun j c hj => ?_⟩
    · rcases i5 z b hz with h2 | h2
      · exact .inl (List.mem_append_right _ h2)
      · rcases g5 z b h2 with h3 | h3
        · exact .inl (List.mem_append_left _ h3)
        · exact .inr h3
    · cases j with
      | zero =>
        simp at hj
        subst hj
        exact ⟨v, rfl, i4 _ _ g6⟩
      | succ j =>
        obtain ⟨u, h2, h3⟩ := i7 j c (by simpa using hj)
        exact ⟨u, by simpa using h2, h3⟩

theorem attachR (d : Nat) {v : Value} {r : RV} {bl : List Nat} (hr : RepR G.K w v r bl) (h : Rel F G σ a w) (hn : bl.Nodup) (hf : Free F G σ bl) (hfr : Fresh σ (backR d r).bx (backR d r).tls) :
    Took F G σ a w bl (backR d r).bx (backR d r).tls fun G' σ' => IRel G' σ'.box σ'.tl w v (backR d r).v := by
  cases hr with
  | one ho => exact attachO d 0 ho h hn hf hfr
  | tup hos =>
    rename_i vs xs
    obtain ⟨G1, g1, g2, g4, g5, g6, g7⟩ := attachOs d 0 hos h hn hf hfr
    refine ⟨G1, g1, g2, g4, g5, .tup vs _ (fun i => (vs[i]?).getD undef) ?_ (fun i c hi => ?_) (fun i c hi => ?_)⟩
    · have : vs.toList.length = vs.size := rfl
      omega
    all_goals
      obtain ⟨u, h1, h3⟩ := g7 i c hi
      rw [Array.getElem?_toList] at h1
    · simp [h1]
    · simp only [h1, Option.getD_some]; exact h3

/-- What the variables and rows that were handed over hold afterwards. -/
inductive Reps (G : Gh) (K : Nat → Nat) (w : World) : List (Nat ⊕ Tag × Nat) → List OV → List Nat → List Nat → Prop where
  | nil : Reps G K w [] [] [] []
  | box {s : Nat} {vs : Array Value} {e : TypeId} {cs : List OL} {b1 : List Nat} {ss : List (Nat ⊕ Tag × Nat)} {os : List OV} {own rows : List Nat} (hg : w.heap[G.ρ s]? = some (.cells vs e (0, 0))) (hK : K (G.ρ s) = 0) (hl : cs.length ≤ vs.size)
      (h : RepC K w (vs.toList.take cs.length) cs b1) (hr : Reps G K w ss os own rows) : Reps G K w (.inl s :: ss) (.ptr cs :: os) (G.ρ s :: own) (b1 ++ rows)
  | row {g : Tag} {n sz : Nat} {xs : List (List PV)} {bl : List Nat} {ss : List (Nat ⊕ Tag × Nat)} {os : List OV} {own rows : List Nat} (h : RepL K w (G.V g) (.mu sz xs) bl) (hr : Reps G K w ss os own rows) :
      Reps G K w (.inr (g, n) :: ss) (.l (.mu sz xs) :: os) (bl ++ own) rows

theorem reps_of {K : Nat → Nat} {rev : Tag → Nat} : ∀ {ss : List (Nat ⊕ Tag × Nat)} {os : List OV} {bo : List Nat} {b : List (Nat × List IV) × List (Tag × Nat × RK) × List (Tag × Nat × RK)}, RepOs K w (ss.map (siteVal G)) os bo → backBx rev ss os = some b →
    ∃ own rows, Reps G K w ss os own rows ∧ bo.Perm (own ++ rows)
  | [], os, bo, b, hr, hb => by
    cases hr
    exact ⟨[], [], .nil, .refl _⟩
  | .inl s :: ss, os, bo, b, hr, hb => by
    simp only [List.map_cons] at hr
    generalize hu : siteVal G (.inl s) = u at hr
    cases hr with
    | cons ho hr =>
      rename_i x b1 xs b2
      cases x with
      | l x => simp [backBx] at hb
      | agg x => simp [backBx] at hb
      | ptr cs =>
        simp only [backBx] at hb
        split at hb
        case h_2 => cases hb
        rename_i r hr'
        obtain ⟨own, rows, i1, i2⟩ := reps_of hr hr'
        cases ho with
        | ptr hg hK hl hc =>
          rename_i b vs e bs
          simp only [siteVal, Value.pointer.injEq, Option.some.injEq, Addr.mk.injEq] at hu
          obtain ⟨rfl, _⟩ := hu
          refine ⟨G.ρ s :: own, bs ++ rows, .box hg hK hl hc i1, ?_⟩
          simp only [List.cons_append]
          refine List.Perm.cons _ ?_
          exact (List.Perm.append_left _ i2).trans (List.perm_append_comm_assoc _ _ _)
  | .inr (g, n) :: ss, os, bo, b, hr, hb => by
    simp only [List.map_cons] at hr
    generalize hu : siteVal G (.inr (g, n)) = u at hr
    cases hr with
    | cons ho hr =>
      rename_i x b1 xs b2
      cases x with
      | ptr x => simp [backBx] at hb
      | agg x => simp [backBx] at hb
      | l x =>
        cases x with
        | fz x => simp [backBx] at hb
        | ow x y => simp [backBx] at hb
        | mu sz ys =>
          simp only [backBx] at hb
          split at hb
          case h_2 => cases hb
          rename_i r hr'
          obtain ⟨own, rows, i1, i2⟩ := reps_of hr hr'
          cases ho with
          | l hl =>
            simp only [siteVal] at hu
            subst hu
            refine ⟨b1 ++ own, rows, .row hl i1, ?_⟩
            rw [List.append_assoc]
            exact List.Perm.append_left _ i2

theorem backBx_tags {rev : Tag → Nat} : ∀ {ss : List (Nat ⊕ Tag × Nat)} {os : List OV} {b : List (Nat × List IV) × List (Tag × Nat × RK) × List (Tag × Nat × RK)}, backBx rev ss os = some b →
    (∀ y ∈ b.1, .inl y.1 ∈ ss) ∧ (∀ y ∈ b.2.1, .inr (y.1, y.2.1) ∈ ss ∧ ∃ sz xs, y.2.2 = .mo sz xs) ∧ (∀ y ∈ b.2.2, .inl y.1.site ∈ ss ∧ y.2.1 = rev y.1) ∧ (∀ s, .inl s ∈ ss → ∃ y ∈ b.1, y.1 = s) ∧ (∀ g n, .inr (g, n) ∈ ss → ∃ y ∈ b.2.1, y.1 = g)
  | [], os, b, h => by
    cases os with
    | nil =>
      simp only [backBx, Option.some.injEq] at h
      subst h
      simp
    | cons => simp [backBx] at h
  | .inl s :: ss, os, b, h => by
    cases os with
    | nil => simp [backBx] at h
    | cons x os =>
      cases x with
      | l x => simp [backBx] at h
      | agg x => simp [backBx] at h
      | ptr cs =>
        simp only [backBx] at h
        split at h
        case h_2 => cases h
        rename_i r hr'
        simp only [Option.some.injEq] at h
        subst h
        obtain ⟨h1, h2, h3, h4, h5⟩ := backBx_tags hr'
        refine ⟨fun y hy => ?_, fun y hy => ?_, fun y hy => ?_, fun s' hs => ?_, fun g n hg => ?_⟩
        · rcases List.mem_cons.1 hy with rfl | hy
          · simp
          · exact List.mem_cons_of_mem _ (h1 y hy)
        · obtain ⟨h6, h7⟩ := h2 y hy
          exact ⟨List.mem_cons_of_mem _ h6, h7⟩
        · rcases List.mem_append.1 hy with hy | hy
          · obtain ⟨j, _, e⟩ := backC_tags rev 1 s cs 0 y hy
            refine ⟨by rw [e]; simp [Tag.site], ?_⟩
            exact backC_rev rev 1 s cs 0 y hy
          · obtain ⟨h6, h7⟩ := h3 y hy
            exact ⟨List.mem_cons_of_mem _ h6, h7⟩
        · rcases List.mem_cons.1 hs with e | hs
          · cases e
            exact ⟨_, List.mem_cons_self, rfl⟩
          · obtain ⟨y, h6, h7⟩ := h4 s' hs
            exact ⟨y, by simp [h6], h7⟩
        · rcases List.mem_cons.1 hg with e | hg
          · cases e
          · exact h5 g n hg
  | .inr (g, n) :: ss, os, b, h => by
    cases os with
    | nil => simp [backBx] at h
    | cons x os =>
      cases x with
      | ptr x => simp [backBx] at h
      | agg x => simp [backBx] at h
      | l x =>
        cases x with
        | fz x => simp [backBx] at h
        | ow x y => simp [backBx] at h
        | mu sz ys =>
          simp only [backBx] at h
          split at h
          case h_2 => cases h
          rename_i r hr'
          simp only [Option.some.injEq] at h
          subst h
          obtain ⟨h1, h2, h3, h4, h5⟩ := backBx_tags hr'
          refine ⟨fun y hy => List.mem_cons_of_mem _ (h1 y hy), fun y hy => ?_, fun y hy => ?_, fun s' hs => ?_, fun g' n' hg => ?_⟩
          · rcases List.mem_cons.1 hy with rfl | hy
            · exact ⟨by simp, sz, ys, rfl⟩
            · obtain ⟨h6, h7⟩ := h2 y hy
              exact ⟨List.mem_cons_of_mem _ h6, h7⟩
          · obtain ⟨h6, h7⟩ := h3 y hy
            exact ⟨List.mem_cons_of_mem _ h6, h7⟩
          · rcases List.mem_cons.1 hs with e | hs
            · cases e
            · exact h4 s' hs
          · rcases List.mem_cons.1 hg with e | hg
            · cases e
              exact ⟨_, List.mem_cons_self, rfl⟩
            · obtain ⟨y, h6, h7⟩ := h5 g' n' hg
              exact ⟨y, by simp [h6], h7⟩
where
  backC_rev (rev : Tag → Nat) (k d : Nat) : ∀ (cs : List OL) (i : Nat), ∀ y ∈ (backC rev k d i cs).2, y.2.1 = rev y.1
    | [], i, y, h => by simp [backC] at h
    | x :: xs, i, y, h => by
      simp only [backC, List.mem_append] at h
      rcases h with h | h
      · cases x <;> simp [backL] at h <;> rw [h]
      · exact backC_rev rev k d xs (i + 1) y h

theorem attachOuts {rev : Tag → Nat} {K : Nat → Nat} {ss : List (Nat ⊕ Tag × Nat)} {os : List OV} {own rows : List Nat} (hr : Reps G K w ss os own rows) : ∀ {G1 : Gh} {σ : AS} {b : List (Nat × List IV) × List (Tag × Nat × RK) × List (Tag × Nat × RK)}, Rel F G1 σ a w → G1.K = K → G1.ρ = G.ρ →
    backBx rev ss os = some b → rows.Nodup → Free F G1 σ rows → (∀ s, .inl s ∈ ss → ∃ cs, σ.box s = some cs) → Older σ b.2.2 → (b.2.2.map (·.1)).Nodup →
    ∃ G', Rel F G' ((σ.setBs b.1).setLs b.2.2) a w ∧ G'.K = G1.K ∧ (∀ v x, IRel G1 σ.box σ.tl w v x → IRel G' ((σ.setBs b.1).setLs b.2.2).box ((σ.setBs b.1).setLs b.2.2).tl w v x) ∧
      (∀ x c, G'.blk ((σ.setBs b.1).setLs b.2.2) x = some c → c ∈ rows ∨ G1.blk σ x = some c) := by
  induction hr with
  | nil =>
    intro G1 σ b h _ _ hb _ _ _ _ _
    simp only [backBx, Option.some.injEq] at hb
    subst hb
    exact ⟨G1, h, rfl, fun _ _ h => h, fun _ _ h => .inr h⟩
  | row hl hr ih =>
    intro G1 σ b h hK hρ hb hn hf hbx hol hnd
    simp only [backBx] at hb
    split at hb
    case h_2 => cases hb
    rename_i r hr'
    simp only [Option.some.injEq] at hb
    subst hb
    have h9 := ih (b := r) h hK hρ hr' hn hf (fun s hs => hbx s (by simp [hs])) hol hnd
    exact h9
  | box hg hK0 hl hc hr ih =>
    rename_i s vs e cs b1 ss os own rows
    intro G1 σ b h hK hρ hb hn hf hbx hol hnd
    simp only [backBx] at hb
    split at hb
    case h_2 => cases hb
    rename_i r hr'
    simp only [Option.some.injEq] at hb
    subst hb
    subst hK
    rw [List.nodup_append] at hn
    obtain ⟨hn1, hn2, hn3⟩ := hn
    simp only [List.map_append] at hnd
    rw [List.nodup_append] at hnd
    obtain ⟨G2, g1, g2, g3, g4, g5, g6, g7⟩ := attachC rev 1 s 0 hc h hn1 (fun b hb => hf b (List.mem_append_left _ hb)) (fun y hy => hol y (List.mem_append_left _ hy))
    obtain ⟨cs0, hcs0⟩ := hbx s (by simp)
    have hlen : (backC rev 1 s 0 cs).1.length ≤ vs.size := by
      rw [g6]
      simp
      omega
    obtain ⟨j1, j2, j3⟩ := g1.reBox (s0 := s) (cs0 := cs0) (cs := (backC rev 1 s 0 cs).1) (by rw [setLs_box]; exact hcs0) (by rw [g3, hρ]; exact hg) hlen (fun i c hi => by
      obtain ⟨u, h1, h2⟩ := g7 i c hi
      rw [List.getElem?_take] at h1
      split at h1
      · exact ⟨u, by simpa using h1, h2⟩
      · cases h1)
    obtain ⟨G3, i1, i2, i3, i4⟩ := ih j1 g2 (g3.trans hρ) hr' hn2 (fun b hb => by
      obtain ⟨f1, f2⟩ := hf b (List.mem_append_right _ hb)
      refine ⟨fun z hz => ?_, f2⟩
      rcases g5 z b (j3 z b hz) with h2 | h2
      · exact hn3 b h2 b hb rfl
      · exact f1 z h2) (fun s' hs => by
      obtain ⟨cs', h1⟩ := hbx s' (by simp [hs])
      simp only [AS.setB]
      split
      · exact ⟨_, rfl⟩
      · exact ⟨cs', by rw [setLs_box]; exact h1⟩) (fun y hy n0 k0 hy2 => by
      refine hol y (List.mem_append_right _ hy) n0 k0 ?_
      rw [show ((σ.setLs (backC rev 1 s 0 cs).2).setB s (backC rev 1 s 0 cs).1).tl y.1 = (σ.setLs (backC rev 1 s 0 cs).2).tl y.1 from rfl, setLs_tl_other _ _ _ (fun z hz => hnd.2.2 z.1 (List.mem_map.2 ⟨z, hz, rfl⟩) y.1 (List.mem_map.2 ⟨y, hy, rfl⟩))] at hy2
      exact hy2) hnd.2.1
    have e3 : (σ.setBs ((s, (backC rev 1 s 0 cs).1) :: r.1)).setLs ((backC rev 1 s 0 cs).2 ++ r.2.2) = (((σ.setLs (backC rev 1 s 0 cs).2).setB s (backC rev 1 s 0 cs).1).setBs r.1).setLs r.2.2 := by
      rw [setLs_append]
      congr 1
      simp only [AS.setBs]
      rw [setLs_setBs, setLs_setB]
    simp only
    rw [e3]
    refine ⟨G3, i1, i2.trans g2, fun v x hv => i3 v x (j2 v x (g4 v x hv)), fun z c hz => ?_⟩
    rcases i4 z c hz with h2 | h2
    · exact .inl (List.mem_append_right _ h2)
    · rcases g5 z c (j3 z c h2) with h3 | h3
      · exact .inl (List.mem_append_left _ h3)
      · exact .inr h3

end

end Go.Proofs.Ytfhgjhchjekbgaa
set_option linter.unusedVariables false
set_option linter.unusedSimpArgs false
namespace Go.Proofs.Ytfhgjhchjekbgaa
open Go

section
variable {F : Fr} {G G' : Gh} {σ σh : AS} {a : Act} {w w' : World} {P : Program} {o : Oper} {d : Nat}

theorem nodup_filterMap {α : Type} {f : α → Option Nat} (hf : ∀ x y b, f x = some b → f y = some b → x = y) : ∀ {l : List α}, l.Nodup → (l.filterMap f).Nodup
  | [], _ => by simp
  | x :: l, h => by
    rw [List.nodup_cons] at h
    have ih := nodup_filterMap hf h.2
    rw [List.filterMap_cons]
    split
    · exact ih
    · rename_i b hb
      rw [List.nodup_cons]
      refine ⟨fun hm => ?_, ih⟩
      rw [List.mem_filterMap] at hm
      obtain ⟨y, hy, hyb⟩ := hm
      rw [hf x y b hb hyb] at h
      exact h.1 hy

theorem reps_box {K : Nat → Nat} {ss : List (Nat ⊕ Tag × Nat)} {os : List OV} {own rows : List Nat} (hr : Reps G K w ss os own rows) {s : Nat} (hs : .inl s ∈ ss) :
    G.ρ s ∈ own ∧ ∃ vs e, w.heap[G.ρ s]? = some (.cells vs e (0, 0)) ∧ K (G.ρ s) = 0 := by
  induction hr with
  | nil => simp at hs
  | box hg hK hl hc hr ih =>
    rcases List.mem_cons.1 hs with e | hs
    · cases e
      exact ⟨by simp, _, _, hg, hK⟩
    · obtain ⟨h1, h2⟩ := ih hs
      exact ⟨by simp [h1], h2⟩
  | row hl hr ih =>
    rcases List.mem_cons.1 hs with e | hs
    · cases e
    · obtain ⟨h1, h2⟩ := ih hs
      exact ⟨by simp [h1], h2⟩

theorem reps_row {K : Nat → Nat} {rev : Tag → Nat} {ss : List (Nat ⊕ Tag × Nat)} {os : List OV} {own rows : List Nat} (hr : Reps G K w ss os own rows) :
    ∀ {b : List (Nat × List IV) × List (Tag × Nat × RK) × List (Tag × Nat × RK)}, backBx rev ss os = some b → ∀ y ∈ b.2.1, RowOK K w (G.V y.1) y.2.2 ∧ ∀ c, (G.V y.1).ownBlock = some c → c ∈ own := by
  induction hr with
  | nil =>
    intro b hb
    simp only [backBx, Option.some.injEq] at hb
    subst hb
    simp
  | box hg hK hl hc hr ih =>
    intro b hb y hy
    simp only [backBx] at hb
    split at hb
    case h_2 => cases hb
    rename_i r hr'
    simp only [Option.some.injEq] at hb
    subst hb
    obtain ⟨h1, h2⟩ := ih hr' y hy
    exact ⟨h1, fun c hc => by simp [h2 c hc]⟩
  | row hl hr ih =>
    intro b hb y hy
    simp only [backBx] at hb
    split at hb
    case h_2 => cases hb
    rename_i r hr'
    simp only [Option.some.injEq] at hb
    subst hb
    rcases List.mem_cons.1 hy with rfl | hy
    · refine ⟨⟨_, hl⟩, fun c hc => ?_⟩
      rw [hl.own_mu, hc]
      simp
    · obtain ⟨h1, h2⟩ := ih hr' y hy
      exact ⟨h1, fun c hc => by simp [h2 c hc]⟩

theorem tipsIn_vis : ∀ {fl : List Bool} {cs : List IV} {os : List OL}, leaves σh fl cs = some os → ∀ g ∈ tipsIn fl cs, ∃ x, σh.tl g = some x
  | [], [], os, _ => by simp [tipsIn]
  | [], _ :: _, os, ho => by simp [leaves] at ho
  | _ :: _, [], os, ho => by simp [leaves] at ho
  | b :: bs, x :: xs, os, ho => by
    simp only [leaves] at ho
    split at ho
    case h_2 => cases ho
    rename_i o os' h1 h2
    have ih := tipsIn_vis h2
    intro g hg
    unfold tipsIn at hg
    split at hg
    · rename_i e1 e2
      cases e1
      cases e2
      rcases List.mem_cons.1 hg with rfl | hg
      · simp only [IV.leaf, if_true] at h1
        split at h1
        case h_2 => cases h1
        rename_i ht
        exact ⟨_, ht⟩
      · exact ih g hg
    · rename_i e1 e2
      cases e1
      cases e2
      exact ih g hg
    · cases hg

def argGone (σ : AS) (m : Mode) (x : IV) : List Tag :=
  match m, x with
  | .ow, .tip g _ _ => [g]
  | .ag fl, .agg cs => tipsIn fl cs
  | .io fl, .ptr s _ => (match σ.box s with
    | some cs => tipsIn fl cs
    | none => [])
  | _, _ => []
theorem goneOf_cons (σ : AS) (x : Opd) (m : Mode) (r : List (Opd × Mode)) : goneOf σ ((x, m) :: r) = argGone σ m (σ.val x) ++ goneOf σ r := rfl
/-- The keys of what is handed over: what comes back in place, what is gone. -/
theorem keys_cases : ∀ {args : List (Opd × Mode)} {os : List OV}, argsOf σh args = some os → ∀ y ∈ keysOf σh args,
    (∃ s, y = .inl s ∧ .inl s ∈ sitesOf σh args) ∨ (∃ g, y = .inr g ∧ (g ∈ goneOf σh args ∨ ∃ n, .inr (g, n) ∈ sitesOf σh args))
  | [], os, _ => by simp [keysOf]
  | (x, m) :: args, os, ho => by
    simp only [argsOf] at ho
    split at ho
    case h_2 => cases ho
    rename_i o os' h1 h2
    have ih := keys_cases h2
    intro y hy
    rw [keysOf_cons, List.mem_append] at hy
    rcases hy with hy | hy
    · rw [sitesOf_cons]
      rw [goneOf_cons]
      unfold argKeys at hy
      split at hy
      · rename_i g _ _ e
        simp only [List.mem_singleton] at hy
        exact .inr ⟨g, hy, .inl (by simp [argGone, e])⟩
      · rename_i fl cs e
        rw [List.mem_map] at hy
        obtain ⟨g, hg, rfl⟩ := hy
        exact .inr ⟨g, rfl, .inl (by simp [argGone, e, hg])⟩
      · rename_i fl s _ e
        split at hy
        · rename_i cs hcs
          rcases List.mem_cons.1 hy with rfl | hy
          · exact .inl ⟨s, rfl, by simp [argSites, e]⟩
          · rw [List.mem_map] at hy
            obtain ⟨g, hg, rfl⟩ := hy
            exact .inr ⟨g, rfl, .inl (by simp [argGone, e, hcs, hg])⟩
        · cases hy
      · rename_i g n e
        simp only [List.mem_singleton] at hy
        exact .inr ⟨g, hy, .inr ⟨n, by simp [argSites, e]⟩⟩
      · cases hy
    · rcases ih y hy with ⟨s, h3, h4⟩ | ⟨g, h3, h4⟩
      · exact .inl ⟨s, h3, by rw [sitesOf_cons]; exact List.mem_append_right _ h4⟩
      · refine .inr ⟨g, h3, ?_⟩
        rcases h4 with h4 | ⟨n, h4⟩
        · exact .inl (List.mem_append_right _ h4)
        · exact .inr ⟨n, by rw [sitesOf_cons]; exact List.mem_append_right _ h4⟩

theorem gone_vis : ∀ {args : List (Opd × Mode)} {os : List OV}, argsOf σh args = some os → ∀ g ∈ goneOf σh args, ∃ x, σh.tl g = some x
  | [], os, _ => by simp [goneOf]
  | (x, m) :: args, os, ho => by
    simp only [argsOf] at ho
    split at ho
    case h_2 => cases ho
    rename_i o os' h1 h2
    have ih := gone_vis h2
    intro g hg
    simp only [goneOf, List.mem_append] at hg
    rcases hg with hg | hg
    · split at hg
      · rename_i g' r xs e
        simp only [List.mem_singleton] at hg
        subst hg
        simp only [argOf, e, IV.leaf, if_true] at h1
        split at h1
        · rename_i ht
          exact ⟨_, ht⟩
        · simp at h1
      · rename_i fl cs e
        simp only [argOf, e, IV.aggs] at h1
        rw [Option.map_eq_some_iff] at h1
        obtain ⟨z, hz, _⟩ := h1
        exact tipsIn_vis hz g hg
      · rename_i fl s off e
        simp only [argOf, e] at h1
        split at h1
        case h_2 => cases h1
        rename_i e2
        cases e2
        split at hg
        · rename_i cs hcs
          simp only [hcs] at h1
          rw [Option.map_eq_some_iff] at h1
          obtain ⟨z, hz, _⟩ := h1
          exact tipsIn_vis hz g hg
        · cases hg
      · cases hg
    · exact ih g hg

theorem backO_bx (d n : Nat) (o : OV) : ∀ y ∈ (backO d n o).bx, y.1 = d := by
  intro y h
  cases o <;> simp [backO] at h
  rw [h]
theorem backO_tls (d n : Nat) (o : OV) : ∀ y ∈ (backO d n o).tls, y.1.site = d := by
  intro y h
  cases o with
  | l x =>
    rw [backL_tags _ _ _ y h]
    rfl
  | agg cs =>
    obtain ⟨j, _, e⟩ := backC_tags _ _ _ cs n y h
    rw [e]
    rfl
  | ptr cs =>
    obtain ⟨j, _, e⟩ := backC_tags _ _ _ cs 0 y h
    rw [e]
    rfl
theorem backOs_bx (d : Nat) : ∀ (os : List OV) (n : Nat), ∀ y ∈ (backOs d n os).2.1, y.1 = d
  | [], n, y, h => by simp [backOs] at h
  | o :: os, n, y, h => by
    simp only [backOs, List.mem_append] at h
    rcases h with h | h
    · exact backO_bx d n o y h
    · exact backOs_bx d os _ y h
theorem backOs_tls (d : Nat) : ∀ (os : List OV) (n : Nat), ∀ y ∈ (backOs d n os).2.2, y.1.site = d
  | [], n, y, h => by simp [backOs] at h
  | o :: os, n, y, h => by
    simp only [backOs, List.mem_append] at h
    rcases h with h | h
    · exact backO_tls d n o y h
    · exact backOs_tls d os _ y h
theorem backR_bx (d : Nat) (r : RV) : ∀ y ∈ (backR d r).bx, y.1 = d := by
  cases r with
  | one o => exact backO_bx d 0 o
  | tup os => exact backOs_bx d os 0
theorem backR_tls (d : Nat) (r : RV) : ∀ y ∈ (backR d r).tls, y.1.site = d := by
  cases r with
  | one o => exact backO_tls d 0 o
  | tup os => exact backOs_tls d os 0

theorem call_back (h : Rel F G σ a w) (hle : σh.le σ) {ys : List Operand} {args : List (Opd × Mode)} {os outs : List OV} {r : RV} {res : Res} (hk : argsOK ys args = true) (hcz : noCz args) (ho : argsOf σh args = some os) (hres : callRes σh d args r outs = some res)
    (hvis : ∀ s cs, σh.box s = some cs → ∀ g : Tag, g.site = s → σh.tl g = σ.tl g) (hd1 : σh.box d = σ.box d) (hd2 : ∀ g : Tag, g.site = d → σh.tl g = σ.tl g)
    {K' : Nat → Nat} {v : Value} {br bo bs : List Nat} (hbs : bs = (keysOf σh args).filterMap (G.blk σ)) (hkeep : Keep (· ∈ bs) w w') (hkok : KOK K' w') (hext : Ext G.K K' w w') (hkb : ∀ b, b < w.heap.size → b ∉ bs → K' b = G.K b)
    (hr : RepR K' w' v r br) (hos : RepOs K' w' (ptrArgs (ys.map a.eval) os) outs bo) (hnd : (br ++ bo).Nodup) (hnew : ∀ b ∈ br ++ bo, b ∈ bs ∨ w.heap.size ≤ b) :
    ∃ G', Rel F G' (σ.mid res) a w' ∧ IRel G' (σ.mid res).box (σ.mid res).tl w' v res.v := by
  unfold callRes at hres
  split at hres
  case h_2 => cases hres
  rename_i b hb
  simp only at hres
  split at hres
  case isFalse => cases hres
  rename_i hc
  obtain ⟨c1, c2, c3, c4, c5, _⟩ := hc
  simp only [Option.some.injEq] at hres
  subst hres
  obtain ⟨s1, s2, s3⟩ := sites_rel h hle hk hcz ho
  rw [s1] at hos
  obtain ⟨own, rows, hreps, hperm⟩ := reps_of hos hb
  obtain ⟨t1, t2, t3, t4, t5⟩ := backBx_tags hb
  have hnd' : (br ++ (own ++ rows)).Nodup := (List.Perm.append_left br hperm).nodup_iff.1 hnd
  rw [List.nodup_append, List.nodup_append] at hnd'
  obtain ⟨n1, ⟨n2, n3, n4⟩, n5⟩ := hnd'
  have hgone : ∀ g ∈ goneOf σh args, ∀ n k, σ.tl g = some (n, k) → σh.rev g = n + 1 := by
    intro g hg n k hg2
    obtain ⟨⟨n', k'⟩, hx⟩ := gone_vis ho g hg
    have h9 := hle.tl _ _ hx
    rw [hg2] at h9
    simp only [Option.some.injEq, Prod.mk.injEq] at h9
    obtain ⟨rfl, rfl⟩ := h9
    simp only [AS.rev, hx]
  have hgone2 : ∀ g ∈ goneOf σh args, ∃ x, σ.tl g = some x := by
    intro g hg
    obtain ⟨x, hx⟩ := gone_vis ho g hg
    exact ⟨x, hle.tl _ _ hx⟩
  have hspent : ∀ x ∈ σh.spentL (goneOf σh args), x.1 ∈ goneOf σh args ∧ x.2 = (σh.rev x.1, .spent) := by
    intro x hx
    simp only [AS.spentL, List.mem_map] at hx
    obtain ⟨g, hg, rfl⟩ := hx
    exact ⟨hg, rfl⟩
  -- the blocks that were handed over have changed
  obtain ⟨q1, q2, q3⟩ := h.called (bxs := b.1.map fun y => (y.1, [])) (ls := σh.spentL (goneOf σh args) ++ b.2.1) hbs hkeep hkok hext hkb (fun x hx => by
    rw [List.mem_map] at hx
    obtain ⟨y, hy, rfl⟩ := hx
    have h1 := t1 y hy
    obtain ⟨_, cs, h2⟩ := s2 _ h1
    obtain ⟨_, h3⟩ := reps_box hreps h1
    exact ⟨rfl, ⟨cs, hle.box _ _ h2⟩, h3⟩) (fun x hx => by
    rcases List.mem_append.1 hx with hx | hx
    · obtain ⟨h1, h2⟩ := hspent x hx
      refine .inl ⟨by rw [h2], fun n k hg => ?_⟩
      rw [h2]
      simp only
      rw [hgone _ h1 n k hg]
      omega
    · obtain ⟨h1, sz, xs, h2⟩ := t2 x hx
      obtain ⟨_, sz', es', h3⟩ := s3 _ _ h1
      exact .inr ⟨sz, xs, sz', es', h2, h3, (reps_row hreps hb x hx).1⟩) (fun y hy => by
    rcases keys_cases ho y hy with ⟨s, rfl, h1⟩ | ⟨g, rfl, h1⟩
    · obtain ⟨z, hz, e⟩ := t4 s h1
      exact .inl ⟨s, rfl, (z.1, []), List.mem_map.2 ⟨z, hz, rfl⟩, e⟩
    · rcases h1 with h1 | ⟨n, h1⟩
      · exact .inr ⟨g, rfl, (g, σh.rev g, .spent), List.mem_append_left _ (List.mem_map.2 ⟨g, h1, rfl⟩), rfl⟩
      · obtain ⟨z, hz, e⟩ := t5 g n h1
        exact .inr ⟨g, rfl, z, List.mem_append_right _ hz, e⟩)
  generalize hσ1 : (σ.setBs (b.1.map fun y => (y.1, []))).setLs (σh.spentL (goneOf σh args) ++ b.2.1) = σ1 at q1 q2 q3
  have hown : ∀ c, (c ∈ bs ∨ w.heap.size ≤ c) → ∀ x, ({ G with K := K' } : Gh).blk σ1 x = some c → c ∈ own := by
    intro c hcc x hx
    obtain ⟨h1, h2⟩ := q3 x c hx
    have hlt := h.blkLt h1
    have hcb : c ∈ bs := by
      rcases hcc with h3 | h3
      · exact h3
      · omega
    rw [hbs, List.mem_filterMap] at hcb
    obtain ⟨y, hy, hyb⟩ := hcb
    have e := h.disj x y c h1 hyb
    subst e
    rcases keys_cases ho x hy with ⟨s, rfl, h3⟩ | ⟨g, rfl, h3⟩
    · obtain ⟨cs, h4, h5⟩ := blk_inl h1
      rw [← h5]
      exact (reps_box hreps h3).1
    · obtain ⟨n, k, h4, h5, h6⟩ := blk_inr h1
      rcases h2 g rfl with h7 | ⟨z, hz, hzg, hzs⟩
      · exfalso
        rcases h3 with h3 | ⟨n, h3⟩
        · exact h7 (g, σh.rev g, .spent) (List.mem_append_left _ (List.mem_map.2 ⟨g, h3, rfl⟩)) rfl
        · obtain ⟨z, hz, e⟩ := t5 g n h3
          exact h7 z (List.mem_append_right _ hz) e
      · rcases List.mem_append.1 hz with hz | hz
        · obtain ⟨_, h8⟩ := hspent z hz
          rw [h8] at hzs
          exact absurd rfl hzs
        · refine (reps_row hreps hb z hz).2 c ?_
          rw [hzg]
          exact h6
  have hmine : ∀ c, (c ∈ bs ∨ w.heap.size ≤ c) → c ∈ F.T ∨ F.W0.heap.size ≤ c := by
    intro c hcc
    rcases hcc with h3 | h3
    · rw [hbs, List.mem_filterMap] at h3
      obtain ⟨y, hy, hyb⟩ := h3
      exact h.mine y c hyb
    · have := h.keep.size
      exact .inr (by omega)
  have hbo : ∀ c, c ∈ own ++ rows → c ∈ bs ∨ w.heap.size ≤ c := fun c hcc => hnew c (List.mem_append_right _ (hperm.mem_iff.2 hcc))
  rw [List.map_append, List.nodup_append] at c4
  -- what lies in the variables is taken in
  have hls1 : ∀ g, (σ1.tl g = σ.tl g ∨ ∃ x ∈ σh.spentL (goneOf σh args) ++ b.2.1, x.1 = g ∧ σ1.tl g = some x.2) := by
    intro g
    rw [← hσ1, setLs_setBs, setBs_tl]
    rcases setLs_cases (σh.spentL (goneOf σh args) ++ b.2.1) σ g with ⟨_, h2⟩ | h2
    · exact .inl h2
    · exact .inr h2
  obtain ⟨G2, g1, g2, g3, g4⟩ := attachOuts (a := a) hreps (G1 := { G with K := K' }) (σ := σ1) q1 rfl rfl hb n3 (fun c hcc => ⟨fun x hx => n4 c (hown c (hbo c (List.mem_append_right _ hcc)) x hx) c hcc rfl, hmine c (hbo c (List.mem_append_right _ hcc))⟩) (fun s hs => by
      obtain ⟨_, cs, h2⟩ := s2 s hs
      rw [← hσ1, setLs_box]
      rcases setBs_cases (b.1.map fun y => (y.1, [])) σ s with ⟨_, h3⟩ | ⟨x, _, _, h3⟩
      · exact ⟨cs, by rw [h3]; exact hle.box _ _ h2⟩
      · exact ⟨_, h3⟩) (fun y hy n0 k0 hg => by
      obtain ⟨h1, h2⟩ := t3 y hy
      obtain ⟨_, cs, h3⟩ := s2 _ h1
      have hv := hvis _ cs h3 y.1 rfl
      rw [h2]
      show n0 < σh.rev y.1 + 1
      rcases hls1 y.1 with h4 | ⟨x, hx, e, h4⟩
      · rw [h4] at hg
        simp only [AS.rev, hv, hg]
        omega
      · rw [h4] at hg
        simp only [Option.some.injEq] at hg
        rcases List.mem_append.1 hx with hx | hx
        · obtain ⟨_, h6⟩ := hspent x hx
          rw [h6, e] at hg
          simp only [Prod.mk.injEq] at hg
          omega
        · obtain ⟨h6, sz, xs, h7⟩ := t2 x hx
          obtain ⟨_, sz', es', h8⟩ := s3 _ _ h6
          rw [e] at h8
          have : x.2.1 = n0 := by rw [hg]
          simp only [AS.rev, hv, h8]
          omega) c4.1
  -- the result is taken in
  have hfr : Fresh ((σ1.setBs b.1).setLs b.2.2) (backR d r).bx (backR d r).tls := by
    refine ⟨fun y hy => ?_, c2, fun y hy => ?_, c4.2.1⟩
    · have e := backR_bx d r y hy
      rw [List.all_eq_true] at c1
      have h1 := isNone_eq (c1 y hy)
      rw [e, hd1] at h1
      have hne : ∀ z ∈ b.1, z.1 ≠ d := fun z hz e2 => by
        obtain ⟨_, cs, h2⟩ := s2 _ (t1 z hz)
        rw [e2] at h2
        rw [hle.box _ _ h2] at h1
        cases h1
      rw [e, setLs_box, setBs_other _ _ _ hne, ← hσ1, setLs_box, setBs_other _ _ _ (fun z hz => by
        rw [List.mem_map] at hz
        obtain ⟨z', hz', rfl⟩ := hz
        exact hne z' hz')]
      exact h1
    · have e := backR_tls d r y hy
      simp only [AS.freshL, List.all_eq_true] at c3
      have h1 := isNone_eq (c3 y hy)
      rw [hd2 _ e] at h1
      rw [setLs_tl_other _ _ _ (fun z hz => c4.2.2 z.1 (List.mem_map.2 ⟨z, hz, rfl⟩) y.1 (List.mem_map.2 ⟨y, hy, rfl⟩)), setBs_tl]
      rcases hls1 y.1 with h4 | ⟨x, hx, e2, h4⟩
      · rw [h4]
        exact h1
      · exfalso
        rcases List.mem_append.1 hx with hx | hx
        · obtain ⟨h5, _⟩ := hspent x hx
          obtain ⟨z, hz⟩ := hgone2 _ h5
          rw [e2, h1] at hz
          cases hz
        · obtain ⟨h6, _⟩ := t2 x hx
          obtain ⟨_, sz', es', h8⟩ := s3 _ _ h6
          rw [e2, h1] at h8
          cases h8
  have hr2 : RepR G2.K w' v r br := by rw [g2]; exact hr
  obtain ⟨G3, i1, i2, i3, i4, i5⟩ := attachR d hr2 g1 n1 (fun c hcc => by
    have hcn := hnew c (List.mem_append_left _ hcc)
    refine ⟨fun x hx => ?_, hmine c hcn⟩
    rcases g4 x c hx with h1 | h1
    · exact n5 c hcc c (List.mem_append_right _ h1) rfl
    · exact n5 c hcc c (List.mem_append_left _ (hown c hcn x h1)) rfl) hfr
  have e : ((((σ1.setBs b.1).setLs b.2.2).setBs (backR d r).bx).setLs (backR d r).tls) = σ.mid { v := (backR d r).v, bx := b.1 ++ (backR d r).bx, tls := σh.spentL (goneOf σh args) ++ b.2.1 ++ b.2.2 ++ (backR d r).tls } := by
    simp only [AS.mid]
    rw [setLs_append, setLs_append, setBs_append, ← hσ1, ← setLs_setBs (b := b.1), ← setLs_setBs (b := (backR d r).bx), ← setLs_setBs (b := (backR d r).bx), setBs_absorb]
  rw [e] at i1 i5
  exact ⟨G3, i1, i5⟩

end

end Go.Proofs.Ytfhgjhchjekbgaa
set_option linter.unusedVariables false
set_option linter.unusedSimpArgs false
namespace Go.Proofs.Ytfhgjhchjekbgaa
open Go

section
variable {F : Fr} {G G' : Gh} {σ σh : AS} {a : Act} {w w' : World} {P : Program} {o : Oper} {d : Nat}

def callOK (c : Call) (f : FuncId) (args : List (Opd × Mode)) : Bool :=
  (match c.callee with
  | .value (.func g) => decide (f = g)
  | _ => false) && argsOK c.args.toList args
def callvOK (c : Call) (x : Opd) (args : List Opd) : Bool :=
  match c.callee with
  | .value y => opdOK y x && opdsOK c.args.toList args
  | _ => false

theorem run_callFunc {f : FuncId} (hf : FnOK P f) (vs : Array Value) : (callFunc f vs).run P w = .ok (.enter f vs) w := by
  obtain ⟨fn, h1, h2, h3⟩ := hf
  have h2' : ¬ fn.name = "runtime.NumGoroutine" := by simpa using h2
  have h3' : ¬ fn.body = none := by
    intro e
    rw [e] at h3
    cases h3
  simp [callFunc, h1, h2', h3']

theorem Calls.mono' {f : FuncId} {vs : Array Value} {R R' : Ending → World → Prop} (h : Calls P f vs w R) (hr : ∀ e w', R e w' → R' e w') : Calls P f vs w R' := Calls.mono h hr

theorem wp_call (h : Rel F G σ a w) (hle : σh.le σ) {c : Call} {f : FuncId} {args : List (Opd × Mode)} {os outs : List OV} {r : RV} {res : Res} (hop : o.op = .call c) (hk : callOK c f args = true) (hcz : noCz args) (ho : argsOf σh args = some os)
    (hE : Ev P f os r outs) (hres : callRes σh d args r outs = some res)
    (hvis : ∀ s cs, σh.box s = some cs → ∀ g : Tag, g.site = s → σh.tl g = σ.tl g) (hd1 : σh.box d = σ.box d) (hd2 : ∀ g : Tag, g.site = d → σh.tl g = σ.tl g)
    {K : Act → World → Prop} {Q : Exit → Act → World → Prop} (hK : ∀ G' v w', Rel F G' (σ.mid res) a w' → IRel G' (σ.mid res).box (σ.mid res).tl w' v res.v → K (a.put o.dst v) w') : o.wp P a w K Q := by
  unfold callOK at hk
  simp only [Bool.and_eq_true] at hk
  obtain ⟨hk1, hk⟩ := hk
  split at hk1
  case h_2 => cases hk1
  rename_i g hcal
  simp only [decide_eq_true_eq] at hk1
  subst hk1
  have hnd : (keysOf σh args).Nodup := by
    unfold callRes at hres
    split at hres
    case h_2 => cases hres
    simp only at hres
    split at hres
    case isFalse => cases hres
    rename_i hc
    exact hc.2.2.2.2.1
  have hargs := args_rel h hle hk hcz ho
  obtain ⟨hfn, hE⟩ := hE
  have hvs : (c.args.map a.eval).toList = c.args.toList.map a.eval := by simp
  have hcall := hE G.K w (c.args.map a.eval) ((keysOf σh args).filterMap (G.blk σ)) h.kok (by rw [hvs]; exact hargs) (nodup_filterMap h.disj hnd)
  have hx : (execOp a.eval o).run P w = .ok (.enter f (c.args.map a.eval)) w := by
    have e1 : a.eval (.func f) = .func (.func f) #[] #[] := rfl
    simp only [execOp, hop, resolve, hcal, e1, Deferred.ofValue, Sem.run_bind, Sem.run_pure, Result.andThen_ok, invoke, Array.empty_append, Array.append_empty]
    exact run_callFunc hfn _
  unfold Oper.wp
  rw [hx, Oper.upon_enter]
  refine Calls.mono hcall fun e w' he => ?_
  obtain ⟨v, K', br, bo, rfl, h1, h2, h3, h4, h5, h6, h7, h8⟩ := he
  rw [hvs] at h6
  obtain ⟨G1, i1, i2⟩ := call_back h hle hk hcz ho hres hvis hd1 hd2 rfl h1 h2 h3 h4 h5 h6 h7 h8
  exact hK G1 v w' i1 i2

/-! ### What is lent for the time of a call -/

/-- Marks that lay open what is lent. -/
theorem lendK (h : Rel F G σ a w) : ∃ K1 : Nat → Nat, KOK K1 w ∧ (∀ b, G.K b ≤ K1 b) ∧ (∀ b, w.heap.size ≤ b → K1 b = 0) ∧ (∀ b cur e fr, (∃ x, G.blk σ x = some b) → G.K b = 0 → w.heap[b]? = some (.cells cur e fr) → K1 b = cur.size) := by
  classical
  refine ⟨fun b => if (∃ x, G.blk σ x = some b) ∧ G.K b = 0 then (match w.heap[b]? with
    | some (.cells cur _ _) => cur.size
    | _ => 0) else G.K b, fun b hb => ?_, fun b => ?_, fun b hb => ?_, fun b cur e fr h1 h2 h3 => ?_⟩
  · simp only at hb ⊢
    split at hb
    · rename_i hc
      split at hb
      · rename_i cur e fr hg
        exact ⟨cur, e, fr, hg, by rw [if_pos hc]; simp [hg]⟩
      · omega
    · rename_i hc
      obtain ⟨cs, e, fr, h1, h2⟩ := h.kok b hb
      exact ⟨cs, e, fr, h1, by rw [if_neg hc]; exact h2⟩
  · simp only
    split
    · rename_i hc
      rw [hc.2]
      exact Nat.zero_le _
    · exact Nat.le_refl _
  · simp only
    split
    · simp [hb]
    · exact h.kok.zero hb
  · simp only [if_pos (show (∃ x, G.blk σ x = some b) ∧ G.K b = 0 from ⟨h1, h2⟩), h3]

theorem capOf_rel (h : Rel F G σ a w) (hle : σh.le σ) {K1 : Nat → Nat} (hk1 : KOK K1 w) (hk2 : ∀ b, G.K b ≤ K1 b) (hk4 : ∀ b cur e fr, (∃ x, G.blk σ x = some b) → G.K b = 0 → w.heap[b]? = some (.cells cur e fr) → K1 b = cur.size) :
    ∀ {caps : List IV} {vs : List PV}, capOf σh caps = some vs → caps.length = vs.length ∧ ∀ (i : Nat) (c : PV), vs[i]? = some c → ∃ x, caps[i]? = some x ∧ ∀ v, IRel G σ.box σ.tl w v x → Rep K1 w v c := by
  have hext : Ext G.K K1 w w := ⟨hk2, fun _ _ _ => rfl⟩
  intro caps vs hc
  fun_induction capOf σh caps generalizing vs with
  | case1 =>
    simp only [Option.some.injEq] at hc
    subst hc
    exact ⟨rfl, by simp⟩
  | case2 s r cs hcs ws rs hcap hfz ih =>
    simp only [hfz, hcap, Option.some.injEq] at hc
    subst hc
    obtain ⟨i1, i2⟩ := ih hcap
    refine ⟨by simp [i1], fun i c hi => ?_⟩
    cases i with
    | zero =>
      simp at hi
      subst hi
      refine ⟨_, rfl, fun v hv => ?_⟩
      obtain ⟨rfl, _⟩ := hv.inv_ptr
      have hcs' := hle.box _ _ hcs
      obtain ⟨cur, e, hg, hl, hc⟩ := h.boxes s cs hcs'
      obtain ⟨h3, h4⟩ := fzL_get hfz
      have hK := hk4 _ cur e _ ⟨.inl s, blk_inl_mk hcs'⟩ (h.boxK s cs hcs') hg
      have key : ∀ (i : Nat) (c : PV), ws[i]? = some c → ∃ u, cur[i]? = some u ∧ u.oneCell' = true ∧ Rep K1 w u c := fun i c hi => by
        have hlt := lt_of_getElem? hi
        have hx : cs[i]? = some (cs[i]'(by omega)) := by simp
        obtain ⟨u, h5, h6, h7⟩ := hc i _ hx
        exact ⟨u, h5, h6, (fz0_rel h7 (h4 i _ c hx hi)).ext hext⟩
      refine .cptr _ 0 _ (fun i => (cur[i]?).getD undef) (by omega) (fun i c hi => ?_) (fun i c hi => ?_) (fun i c hi => ?_)
      all_goals obtain ⟨u, h5, h6, h7⟩ := key i c hi
      · rw [Nat.zero_add, cell_heap hg]
        simp [h5]
      · simp only [h5, Option.getD_some]; exact h6
      · simp only [h5, Option.getD_some]; exact h7
    | succ i => exact i2 i c (by simpa using hi)
  | case3 => simp_all
  | case4 => simp_all
  | case5 v r ih =>
    rw [Option.map_eq_some_iff] at hc
    obtain ⟨rs, hrs, rfl⟩ := hc
    obtain ⟨i1, i2⟩ := ih hrs
    refine ⟨by simp [i1], fun i c hi => ?_⟩
    cases i with
    | zero =>
      simp at hi
      subst hi
      exact ⟨_, rfl, fun u hu => hu.inv_p.ext hext⟩
    | succ i => exact i2 i c (by simpa using hi)
  | case6 => cases hc

def lendOK (args : List (Opd × Mode)) : Bool := args.all fun x => match x.2 with
  | .cz => true
  | .fz => true
  | _ => false

theorem args_lent (h : Rel F G σ a w) (hle : σh.le σ) {K1 : Nat → Nat} (hk1 : KOK K1 w) (hk2 : ∀ b, G.K b ≤ K1 b) (hk4 : ∀ b cur e fr, (∃ x, G.blk σ x = some b) → G.K b = 0 → w.heap[b]? = some (.cells cur e fr) → K1 b = cur.size) :
    ∀ {ys : List Operand} {args : List (Opd × Mode)} {os : List OV}, argsOK ys args = true → lendOK args = true → argsOf σh args = some os → RepOs K1 w (ys.map a.eval) os []
  | [], [], os, _, _, ho => by
    simp only [argsOf, Option.some.injEq] at ho
    subst ho
    exact .nil
  | [], _ :: _, _, hk, _, _ => by simp [argsOK] at hk
  | _ :: _, [], _, hk, _, _ => by simp [argsOK] at hk
  | y :: ys, (x, m) :: args, os, hk, hc, ho => by
    simp only [argsOK, Bool.and_eq_true] at hk
    simp only [lendOK, List.all_cons, Bool.and_eq_true] at hc
    simp only [argsOf] at ho
    split at ho
    case h_2 => cases ho
    rename_i o os' h1 h2
    simp only [Option.some.injEq] at ho
    subst ho
    have hx := opd_rel h hk.1
    rw [← hle.val] at hx
    have hext : Ext G.K K1 w w := ⟨hk2, fun _ _ _ => rfl⟩
    have ih := args_lent h hle hk1 hk2 hk4 hk.2 hc.2 h2
    have hone : ∃ p, o = .l (.fz p) ∧ Rep K1 w (a.eval y) p := by
      cases m with
      | fz =>
        simp only [argOf] at h1
        rw [Option.map_eq_some_iff] at h1
        obtain ⟨p, hp, rfl⟩ := h1
        exact ⟨p, rfl, (fz_rel hx hp).ext hext⟩
      | cz =>
        simp only [argOf] at h1
        split at h1
        · rename_i f caps e
          rw [Option.map_eq_some_iff] at h1
          obtain ⟨vs, hvs, rfl⟩ := h1
          refine ⟨_, rfl, ?_⟩
          rw [e] at hx
          obtain ⟨us, f', e1, hl, hcc, hr⟩ := hx.inv_clo
          rw [e1]
          obtain ⟨i1, i2⟩ := capOf_rel h hle hk1 hk2 hk4 hvs
          refine .clo f us vs f' (by omega) (fun i c hi => ?_) (fun i c hi => ?_)
          all_goals obtain ⟨z, h5, h6⟩ := i2 i c hi
          · exact hcc i z h5
          · exact h6 _ (hr i z h5)
        · rw [Option.map_eq_some_iff] at h1
          obtain ⟨z, hz, rfl⟩ := h1
          refine ⟨_, rfl, ?_⟩
          unfold IV.moLeaf at hz
          split at hz
          case h_2 => cases hz
          rename_i g q e
          split at hz
          case h_2 => cases hz
          rename_i q' sz es htl
          split at hz
          case isFalse => cases hz
          rename_i hq
          subst hq
          simp only [Option.some.injEq] at hz
          subst hz
          rw [e] at hx
          have htl' := hle.tl _ _ htl
          have e1 := hx.inv_mo htl'
          obtain ⟨bl, hrow⟩ := h.rows g _ _ htl'
          rcases hrow.inv_mu with ⟨e3, rfl, _⟩ | ⟨b, cap, cur, e', f, e3, _, hg, hnc, hm, hcs, h0, hK, hxe, hcell, hone, hrep⟩
          · rw [e1, e3]
            exact .slice0 _ _
          · rw [e1, e3]
            have hK1 := hk4 b cur e' _ ⟨.inr g, blk_inr_mk htl' (by simp) (by rw [e3]; rfl)⟩ hK hg
            have hle2 : es.length * sz ≤ cap * sz := Nat.mul_le_mul_right _ hnc
            exact mkSlice hg hnc (by omega) (fun x hx => by
              obtain ⟨j, hj⟩ := List.mem_iff_getElem?.1 hx
              exact hxe j x hj) (fun i x j c hx hj => ⟨f i j, hcell i x j c hx hj, hone i x j c hx hj, (hrep i x j c hx hj).ext hext⟩)
      | _ => simp at hc
    obtain ⟨p, rfl, hp⟩ := hone
    have := RepOs.cons (RepO.l (.fz hp)) ih
    simpa using this

theorem gone_keys : ∀ {args : List (Opd × Mode)}, keysOf σ args = [] → goneOf σ args = []
  | [], _ => rfl
  | (x, m) :: args, h => by
    rw [keysOf_cons, List.append_eq_nil_iff] at h
    rw [goneOf_cons, gone_keys h.2, List.append_nil]
    have h1 := h.1
    unfold argGone
    unfold argKeys at h1
    split
    · rename_i e
      rw [e] at h1
      simp at h1
    · rename_i e
      rw [e] at h1
      simpa using h1
    · rename_i e
      rw [e] at h1
      split
      · rename_i hcs
        simp [hcs] at h1
      · rfl
    · rfl
theorem lend_sites : ∀ {args : List (Opd × Mode)}, lendOK args = true → sitesOf σ args = []
  | [], _ => rfl
  | (x, m) :: args, h => by
    simp only [lendOK, List.all_cons, Bool.and_eq_true] at h
    rw [sitesOf_cons, lend_sites h.2, List.append_nil]
    have h1 := h.1
    cases m <;> first | rfl | simp at h1
theorem lend_ptr : ∀ {args : List (Opd × Mode)} {os : List OV} {vs : List Value}, lendOK args = true → argsOf σ args = some os → ptrArgs vs os = []
  | [], os, vs, _, ho => by
    simp only [argsOf, Option.some.injEq] at ho
    subst ho
    cases vs <;> rfl
  | (x, m) :: args, os, vs, h, ho => by
    simp only [lendOK, List.all_cons, Bool.and_eq_true] at h
    simp only [argsOf] at ho
    split at ho
    case h_2 => cases ho
    rename_i o os' h1 h2
    simp only [Option.some.injEq] at ho
    subst ho
    have ih : ∀ vs, ptrArgs vs os' = [] := fun vs => lend_ptr (vs := vs) h.2 h2
    cases vs with
    | nil => rfl
    | cons v vs =>
      have hone : ∃ p, o = .l (.fz p) := by
        cases m with
        | fz =>
          simp only [argOf] at h1
          rw [Option.map_eq_some_iff] at h1
          obtain ⟨p, hp, rfl⟩ := h1
          exact ⟨p, rfl⟩
        | cz =>
          simp only [argOf] at h1
          split at h1
          · rw [Option.map_eq_some_iff] at h1
            obtain ⟨p, hp, rfl⟩ := h1
            exact ⟨_, rfl⟩
          · rw [Option.map_eq_some_iff] at h1
            obtain ⟨p, hp, rfl⟩ := h1
            exact ⟨_, rfl⟩
        | _ => simp at h
      obtain ⟨p, rfl⟩ := hone
      exact ih vs

theorem wp_call_lent (h : Rel F G σ a w) (hle : σh.le σ) {c : Call} {f : FuncId} {args : List (Opd × Mode)} {os outs : List OV} {r : RV} {res : Res} (hop : o.op = .call c) (hk : callOK c f args = true) (hl : lent args = true) (hlo : lendOK args = true) (ho : argsOf σh args = some os)
    (hE : Ev P f os r outs) (hres : callRes σh d args r outs = some res)
    {K : Act → World → Prop} {Q : Exit → Act → World → Prop} (hK : ∀ G' v w', Rel F G' (σ.mid res) a w' → IRel G' (σ.mid res).box (σ.mid res).tl w' v res.v → K (a.put o.dst v) w') : o.wp P a w K Q := by
  unfold callOK at hk
  simp only [Bool.and_eq_true] at hk
  obtain ⟨hk1, hk⟩ := hk
  split at hk1
  case h_2 => cases hk1
  rename_i g hcal
  simp only [decide_eq_true_eq] at hk1
  subst hk1
  unfold callRes at hres
  split at hres
  case h_2 => cases hres
  rename_i b hb
  simp only at hres
  split at hres
  case isFalse => cases hres
  rename_i hc
  obtain ⟨_, _, _, _, _, c6⟩ := hc
  obtain ⟨hsc, hkeys⟩ := c6 hl
  rw [lend_sites hlo] at hb
  rw [gone_keys hkeys] at hres
  obtain ⟨K1, k1, k2, k3, k4⟩ := lendK h
  have hargs := args_lent h hle k1 k2 k4 hk hlo ho
  obtain ⟨hfn, hE⟩ := hE
  have hvs : (c.args.map a.eval).toList = c.args.toList.map a.eval := by simp
  have hcall := hE K1 w (c.args.map a.eval) [] k1 (by rw [hvs]; exact hargs) (by simp)
  have hx : (execOp a.eval o).run P w = .ok (.enter f (c.args.map a.eval)) w := by
    have e1 : a.eval (.func f) = .func (.func f) #[] #[] := rfl
    simp only [execOp, hop, resolve, hcal, e1, Deferred.ofValue, Sem.run_bind, Sem.run_pure, Result.andThen_ok, invoke, Array.empty_append, Array.append_empty]
    exact run_callFunc hfn _
  unfold Oper.wp
  rw [hx, Oper.upon_enter]
  refine Calls.mono hcall fun e w' he => ?_
  obtain ⟨v, K', br, bo, rfl, h1, h2, h3, h4, h5, h6, h7, h8⟩ := he
  let K2 : Nat → Nat := fun b => if b < w.heap.size then G.K b else K' b
  have hK2 : ∀ b, b < w.heap.size → K2 b = G.K b := fun b hb => by simp only [K2, if_pos hb]
  have hheap : ∀ b, b < w.heap.size → w'.heap[b]? = w.heap[b]? := fun b hb => h1.block b hb (by simp)
  obtain ⟨q1, q2, _⟩ := h.called (K' := K2) (w' := w') (keys := []) (bs := []) (bxs := []) (ls := []) rfl h1 (fun b hb => by
    by_cases hlt : b < w.heap.size
    · rw [hK2 b hlt] at hb ⊢
      obtain ⟨cs, e, fr, h9, h10⟩ := h.kok b hb
      exact ⟨cs, e, fr, by rw [hheap b hlt]; exact h9, h10⟩
    · have e : K2 b = K' b := by simp only [K2, if_neg hlt]
      rw [e] at hb ⊢
      exact h2 b hb) ⟨fun b => by
      by_cases hlt : b < w.heap.size
      · rw [hK2 b hlt]
        exact Nat.le_refl _
      · rw [h.kok.zero (by omega)]
        exact Nat.zero_le _, fun b o hlt => cell_of_heap (hheap b (h.kok.lt (by omega)))⟩ (fun b hb _ => hK2 b hb) (by simp) (by simp) (by simp)
  have hv : ∃ p, r = .one (.l (.fz p)) ∧ ∀ K'' w'', Rep K'' w'' v p := by
    cases r with
    | tup xs => simp [RV.scalar] at hsc
    | one x =>
      cases x with
      | agg cs => simp [RV.scalar] at hsc
      | ptr cs => simp [RV.scalar] at hsc
      | l y =>
        cases y with
        | ow sz xs => simp [RV.scalar] at hsc
        | mu sz xs => simp [RV.scalar] at hsc
        | fz p =>
          refine ⟨p, rfl, fun K'' w'' => ?_⟩
          cases h5 with
          | one h5 =>
            cases h5 with
            | l h5 =>
              cases h5 with
              | fz h5 =>
                cases h5 <;> first | exact .int _ _ | exact .bool _ | exact .str _ | simp [RV.scalar, PV.scalar] at hsc
  obtain ⟨p, rfl, hp⟩ := hv
  have hb2 : b = ([], [], []) := by
    cases outs with
    | nil =>
      simp only [backBx, Option.some.injEq] at hb
      exact hb.symm
    | cons => simp [backBx] at hb
  subst hb2
  simp only [Option.some.injEq] at hres
  subst hres
  exact hK _ v w' q1 (.p (hp _ _))

theorem fzs_rel {K1 : Nat → Nat} : ∀ {vs : List Value} {cs : List PV}, vs.length = cs.length → (∀ (i : Nat) (c : PV), cs[i]? = some c → ∃ v, vs[i]? = some v ∧ Rep K1 w v c) → RepOs K1 w vs (cs.map fun v => .l (.fz v)) []
  | [], [], _, _ => .nil
  | [], _ :: _, h, _ => by simp at h
  | _ :: _, [], h, _ => by simp at h
  | v :: vs, c :: cs, hl, hc => by
    obtain ⟨u, h1, h2⟩ := hc 0 c rfl
    simp at h1
    subst h1
    have ih := fzs_rel (K1 := K1) (vs := vs) (cs := cs) (by simpa using hl) (fun i c hi => by
      obtain ⟨u, h3, h4⟩ := hc (i + 1) c (by simpa using hi)
      exact ⟨u, by simpa using h3, h4⟩)
    have := RepOs.cons (RepO.l (.fz h2)) ih
    simpa using this
theorem argsOK_fz : ∀ {ys : List Operand} {xs : List Opd}, opdsOK ys xs = true → argsOK ys (xs.map fun y => (y, Mode.fz)) = true
  | [], [], _ => rfl
  | [], _ :: _, h => by simp [opdsOK] at h
  | _ :: _, [], h => by simp [opdsOK] at h
  | y :: ys, x :: xs, h => by
    simp only [opdsOK, Bool.and_eq_true] at h
    simp [argsOK, h.1, argsOK_fz h.2]
theorem repOs_append {K1 : Nat → Nat} : ∀ {vs us : List Value} {xs ys : List OV} {b1 b2 : List Nat}, RepOs K1 w vs xs b1 → RepOs K1 w us ys b2 → RepOs K1 w (vs ++ us) (xs ++ ys) (b1 ++ b2) := by
  intro vs us xs ys b1 b2 h h'
  induction h with
  | nil => exact h'
  | cons h hr ih =>
    simp only [List.cons_append, List.append_assoc]
    exact .cons h ih

/-- A function value is called. -/
theorem wp_callv (h : Rel F G σ a w) (hle : σh.le σ) {c : Call} {f : FuncId} {x : Opd} {xs : List Opd} {caps : List PV} {os : List OV} {r : RV} {res : Res} (hop : o.op = .call c) (hk : callvOK c x xs = true) (hfn : fnOf (σh.val x) = some (f, caps)) (ho : argsOf σh (xs.map fun y => (y, .fz)) = some os)
    (hE : Ev P f (os ++ caps.map fun v => .l (.fz v)) r []) (hres : callRes σh d [] r [] = some res)
    (hvis : ∀ s cs, σh.box s = some cs → ∀ g : Tag, g.site = s → σh.tl g = σ.tl g) (hd1 : σh.box d = σ.box d) (hd2 : ∀ g : Tag, g.site = d → σh.tl g = σ.tl g)
    {K : Act → World → Prop} {Q : Exit → Act → World → Prop} (hK : ∀ G' v w', Rel F G' (σ.mid res) a w' → IRel G' (σ.mid res).box (σ.mid res).tl w' v res.v → K (a.put o.dst v) w') : o.wp P a w K Q := by
  unfold callvOK at hk
  split at hk
  case h_2 => cases hk
  rename_i y hcal
  simp only [Bool.and_eq_true] at hk
  obtain ⟨hk1, hk2⟩ := hk
  obtain ⟨us, e1, hus⟩ : ∃ us : Array Value, a.eval y = .func (.func f) #[] us ∧ RepOs G.K w us.toList (caps.map fun v => .l (.fz v)) [] := by
    have hv := opd_rel h hk1
    rw [← hle.val] at hv
    unfold fnOf at hfn
    split at hfn
    · rename_i g e
      simp only [Option.some.injEq, Prod.mk.injEq] at hfn
      obtain ⟨rfl, rfl⟩ := hfn
      rw [e] at hv
      obtain ⟨vs, f', e2, hl, _⟩ := hv.inv_clo
      have : vs = #[] := Array.eq_empty_of_size_eq_zero (by simpa using hl)
      subst this
      exact ⟨#[], e2, .nil⟩
    · rename_i g cs e
      simp only [Option.some.injEq, Prod.mk.injEq] at hfn
      obtain ⟨rfl, rfl⟩ := hfn
      rw [e] at hv
      have hr := hv.inv_p
      generalize a.eval y = u at hr
      cases hr with
      | clo _ vs _ f' hl hc hr =>
        refine ⟨vs, rfl, fzs_rel (by simpa using hl) fun i c hi => ⟨f' i, by simpa using hc i c hi, hr i c hi⟩⟩
    · cases hfn
  have hk' : argsOK c.args.toList (xs.map fun y => (y, Mode.fz)) = true := argsOK_fz hk2
  have hcz : noCz (xs.map fun y => (y, Mode.fz)) := fun x hx => by
    rw [List.mem_map] at hx
    obtain ⟨y, _, rfl⟩ := hx
    simp
  have hargs := args_rel h hle hk' hcz ho
  have hkeys : keysOf σh (xs.map fun y => (y, Mode.fz)) = [] := by
    clear hargs hcz hk' ho hk2
    induction xs with
    | nil => rfl
    | cons x xs ih =>
      rw [List.map_cons, keysOf_cons, ih]
      rfl
  rw [hkeys] at hargs
  simp only [List.filterMap_nil] at hargs
  obtain ⟨hfn, hE⟩ := hE
  have hvs : (c.args.map a.eval).toList = c.args.toList.map a.eval := by simp
  have happ := repOs_append hargs hus
  have hcall := hE G.K w (c.args.map a.eval ++ us) [] h.kok (by rw [Array.toList_append, hvs]; exact happ) (by simp)
  have hx : (execOp a.eval o).run P w = .ok (.enter f (c.args.map a.eval ++ us)) w := by
    simp only [execOp, hop, resolve, hcal, e1, Deferred.ofValue, Sem.run_bind, Sem.run_pure, Result.andThen_ok, invoke, Array.empty_append]
    exact run_callFunc hfn _
  unfold Oper.wp
  rw [hx, Oper.upon_enter]
  refine Calls.mono hcall fun e w' he => ?_
  obtain ⟨v, K', br, bo, rfl, h1, h2, h3, h4, h5, h6, h7, h8⟩ := he
  have hbo : RepOs K' w' (ptrArgs (([] : List Operand).map a.eval) []) [] bo := by
    generalize ptrArgs (c.args.map a.eval ++ us).toList (os ++ caps.map fun v => .l (.fz v)) = us2 at h6
    cases h6 with
    | nil => exact .nil
  obtain ⟨G1, i1, i2⟩ := call_back (args := []) (ys := []) h hle rfl (fun x hx => by cases hx) rfl hres hvis hd1 hd2 rfl h1 h2 h3 h4 h5 hbo h7 h8
  exact hK G1 v w' i1 i2

end

end Go.Proofs.Ytfhgjhchjekbgaa
set_option linter.unusedVariables false
set_option linter.unusedSimpArgs false
namespace Go.Proofs.Ytfhgjhchjekbgaa
open Go

def Vis.same : Vis → Vis → Bool
  | .but a, .but b => decide (a = b)
  | .only a, .only b => decide (a = b)
  | _, _ => false

/-- Does the operation have this abstract form? (Those that change memory, those that are new.) -/
def kmOK (P : Program) (d : Nat) (vb vl : Vis) : Op → AK → Bool
  | .assign x, .asg y => opdOK x y && vl.has d
  | .assign x, .asm y => opdOK x y && vl.has d
  | .assign x, .asgo y => opdOK x y && vl.has d
  | .alloc t, .al zero => zeroOK P t zero && vb.has d && vl.has d
  | .box _ x, .bx y _ => opdOK x y && vb.has d && vl.has d
  | .buildSlice t n parts, .bs sz xs => buildSliceOK P t n parts sz xs && vl.has d
  | .buildSlice t n parts, .bm sz xs => buildSliceOK P t n parts sz xs && vl.has d
  | .store t x y, .st x' y' sz _ => opdOK x x' && opdOK y y' && szOK P t sz
  | .store t x y, .stm x' y' sz => opdOK x x' && opdOK y y' && szOK P t sz
  | .store t x y, .stn x' y' sz s => opdOK x x' && opdOK y y' && szOK P t sz && vl.has s
  | .call c, .app x y sz bytes => appOK P c x y sz bytes && vl.has d
  | .build t parts, .bd zero xs => buildOK P t parts zero xs
  | .field s x f, .fld x' off sz ag => opdOK x x' && fldOK P s f off sz ag
  | .makeSlice t n n2, .mk n' sz bytes zero => opdOK n n' && opdOK n2 n' && mkOK P t sz bytes zero && vl.has d
  | .convert s t x, .cvs x' => opdOK x x' && cvsOK P s t
  | _, _ => false
def kcOK (d : Nat) (vb vl : Vis) : Op → AK → Bool
  | .call c, .call f args => callOK c f args && (if lent args then lendOK args else vb.same vl && vb.has d)
  | .call c, .callv x args => callvOK c x args && vb.same vl && vb.has d
  | _, _ => false

section
variable {F : Fr} {G G' : Gh} {σ σh : AS} {a : Act} {w w' : World} {P : Program} {o : Oper} {d : Nat}

theorem see_tl (σ : AS) (vb vl : Vis) (g : Tag) (h : vl.has g.site = true) : (σ.see vb vl).tl g = σ.tl g := by simp only [AS.see, h, if_true]
theorem see_box (σ : AS) (vb vl : Vis) (s : Nat) (h : vb.has s = true) : (σ.see vb vl).box s = σ.box s := by simp only [AS.see, h, if_true]

theorem see_freshL (σ : AS) (vb vl : Vis) (d : Nat) (h : vl.has d = true) : ∀ (xs : List IV) (i : Nat), (σ.see vb vl).freshL (tipCells d i xs).2 = true → σ.freshL (tipCells d i xs).2 = true := by
  intro xs i hf
  simp only [AS.freshL, List.all_eq_true] at hf ⊢
  intro y hy
  obtain ⟨j, _, e⟩ := tipCells_tags d xs i y hy
  have := hf y hy
  rw [see_tl _ _ _ _ (by rw [e]; exact h)] at this
  exact this

theorem nilCells_tags (rev : Tag → Nat) (s : Nat) : ∀ (xs : List IV) (i : Nat), ∀ y ∈ (nilCells rev s i xs).2, (∃ j, i ≤ j ∧ y.1 = (3, s, j)) ∧ y.2.1 = rev y.1
  | [], i, y, h => by simp [nilCells] at h
  | x :: xs, i, y, h => by
    have ih := nilCells_tags rev s xs (i + 1)
    have h' : y ∈ (nilCells rev s (i + 1) xs).2 ∨ (y.1 = (3, s, i) ∧ y.2.1 = rev y.1) := by
      unfold nilCells at h
      split at h
      · simp only [List.mem_cons] at h
        rcases h with rfl | h
        · exact .inr ⟨rfl, rfl⟩
        · exact .inl h
      · exact .inl h
    rcases h' with h1 | h1
    · obtain ⟨⟨j, h2, h3⟩, h4⟩ := ih y h1
      exact ⟨⟨j, by omega, h3⟩, h4⟩
    · exact ⟨⟨i, Nat.le_refl _, h1.1⟩, h1.2⟩

theorem Rel.nils (rev : Tag → Nat) (s : Nat) : ∀ (xs : List IV) (i : Nat) {G : Gh} {σ : AS}, Rel F G σ a w → (∀ j n0 k0, i ≤ j → σ.tl (3, s, j) = some (n0, k0) → n0 < rev (3, s, j)) →
    ∃ G', Rel F G' (σ.setLs (nilCells rev s i xs).2) a w ∧ G'.K = G.K ∧ G'.ρ = G.ρ ∧ (nilCells rev s i xs).1.length = xs.length ∧
      (∀ v x, IRel G σ.box σ.tl w v x → IRel G' (σ.setLs (nilCells rev s i xs).2).box (σ.setLs (nilCells rev s i xs).2).tl w v x) ∧
      ∀ (j : Nat) (x c : IV), xs[j]? = some x → (nilCells rev s i xs).1[j]? = some c → ∀ v, IRel G σ.box σ.tl w v x → IRel G' (σ.setLs (nilCells rev s i xs).2).box (σ.setLs (nilCells rev s i xs).2).tl w v c
  | [], i, G, σ, h, _ => ⟨G, h, rfl, rfl, rfl, fun _ _ h => h, by simp⟩
  | x :: xs, i, G, σ, h, hf => by
    by_cases hx : ∃ sz, x = .nil sz
    · obtain ⟨sz, rfl⟩ := hx
      have e0 : nilCells rev s i (.nil sz :: xs) = (.tip (3, s, i) (rev (3, s, i)) [] :: (nilCells rev s (i + 1) xs).1, ((3, s, i), rev (3, s, i), .tip 0 sz) :: (nilCells rev s (i + 1) xs).2) := rfl
      rw [e0]
      obtain ⟨G1, hr1, hK1, hρ1, hV1, hm1, _⟩ := h.attach (g0 := (3, s, i)) (r := rev (3, s, i)) (k := .tip 0 sz) (V' := .slice none 0 0) (fun n0 k0 hg => hf i n0 k0 (Nat.le_refl _) hg) ⟨[], .nil sz⟩ (fun b hb => by simp [Value.ownBlock] at hb)
      obtain ⟨G2, hr2, hK2, hρ2, hl2, hm2, hc2⟩ := Rel.nils rev s xs (i + 1) hr1 (fun j n0 k0 hj hg => by
        simp only [AS.setL] at hg
        rw [if_neg (by simp; omega)] at hg
        exact hf j n0 k0 (by omega) hg)
      refine ⟨G2, hr2, hK2.trans hK1, hρ2.trans hρ1, by simp [hl2], fun v x hv => hm2 v x (hm1 v x hv), fun j x c hj hc v hv => ?_⟩
      cases j with
      | zero =>
        simp at hj hc
        subst hj
        subst hc
        have e1 := hv.inv_nil
        subst e1
        refine hm2 _ _ (.tip _ (rev (3, s, i)) [] (rev (3, s, i)) (.tip 0 sz) (.slice0 _ _) (by simp [AS.setL]) (Nat.le_refl _) fun _ m sz' hk => ?_)
        cases hk
        exact ⟨by simp, Nat.le_refl _, fun _ => hV1.symm⟩
      | succ j => exact hc2 j x c (by simpa using hj) (by simpa using hc) v (hm1 v x hv)
    · have e0 : nilCells rev s i (x :: xs) = (x :: (nilCells rev s (i + 1) xs).1, (nilCells rev s (i + 1) xs).2) := by
        cases x <;> first | rfl | exact absurd ⟨_, rfl⟩ hx
      rw [e0]
      obtain ⟨G2, hr2, hK2, hρ2, hl2, hm2, hc2⟩ := Rel.nils rev s xs (i + 1) h (fun j n0 k0 hj hg => hf j n0 k0 (by omega) hg)
      refine ⟨G2, hr2, hK2, hρ2, by simp [hl2], hm2, fun j x' c hj hc v hv => ?_⟩
      cases j with
      | zero =>
        simp at hj hc
        subst hj
        subst hc
        exact hm2 _ _ hv
      | succ j => exact hc2 j x' c (by simpa using hj) (by simpa using hc) v hv

theorem m_stn (h : Rel F G σ a w) (hle : σh.le σ) {t : TypeId} {y z : Operand} {x' y' : Opd} {sz s' : Nat} (ho : o.op = .store t y z) (hy : opdOK y x' = true) (hz : opdOK z y' = true) (hs : szOK P t sz = true) (hv : ∀ g : Tag, g.site = s' → σh.tl g = σ.tl g) {r : Res}
    (hev : evK σh d (.stn x' y' sz s') = some r) : Out P F σ a w o r := by
  simp only [evK, hle.val] at hev
  have h1 := opd_rel h hy
  have h2 := opd_rel h hz
  split at hev
  · rename_i s n ys hp hys
    split at hev
    case isFalse => cases hev
    rename_i hcd
    obtain ⟨rfl, hlen⟩ := hcd
    split at hev
    case h_2 => cases hev
    rename_i cs hcs
    rw [Option.map_eq_some_iff] at hev
    obtain ⟨cs', hcs', rfl⟩ := hev
    have hrev : ∀ j, σh.rev (3, s, j) = σ.rev (3, s, j) := fun j => by simp only [AS.rev, hv (3, s, j) rfl]
    obtain ⟨G1, g1, gK, g2, g3, g4, g5⟩ := Rel.nils σh.rev s ys n h (fun j n0 k0 _ hg => by
      rw [hrev]
      simp only [AS.rev, hg]
      omega)
    generalize hq : nilCells σh.rev s n ys = q at hcs' g1 g3 g4 g5
    unfold putCells at hcs'
    split at hcs'
    case isFalse => cases hcs'
    rename_i hfit
    simp only [Option.some.injEq] at hcs'
    subst hcs'
    have hcs1 := hle.box _ _ hcs
    rw [hp] at h1
    obtain ⟨e1, _⟩ := h1.inv_ptr
    obtain ⟨vs, e, hg, hl, hc⟩ := h.boxes s cs hcs1
    obtain ⟨h3, h4⟩ := cells_rel h2 hys
    have hone : ∀ u ∈ (a.eval z).cells.toList, u.oneCell' = true := one_of_cells (R := fun _ => True) h3 (fun i hi => by
      obtain ⟨u, h5, h6, _⟩ := h4 i (ys[i]) (by simp)
      exact ⟨u, h5, h6⟩)
    have hrun := run_storeVar_ok (P := P) hs (b := G.ρ s) (off := n) (v := a.eval z) (by omega) hg (by omega) hone
    have hvl : (a.eval z).cells.toList.length = q.1.length := by rw [g3]; simpa using h3
    have hbx1 : (σ.setLs q.2).box s = some cs := by rw [setLs_box]; exact hcs1
    obtain ⟨hr1, _⟩ := g1.boxPut hbx1 (by rw [g2]; exact hg) (cs := cs.take n ++ q.1 ++ cs.drop (n + q.1.length)) (cur' := (vs.toList.take n ++ (a.eval z).cells.toList ++ vs.toList.drop (n + (a.eval z).cells.toList.length)).toArray) (by
      rw [splice_length _ _ _ hfit, List.size_toArray, splice_length _ _ _ (by simp [hvl]; omega)]
      simpa using hl) (fun i c hi => by
      rw [splice_get _ _ _ _ hfit] at hi
      rw [List.getElem?_toArray, splice_get _ _ _ _ (by simp [hvl]; omega), hvl]
      by_cases h5 : i < n
      · rw [if_pos h5] at hi ⊢
        obtain ⟨u, h6, h7, h8⟩ := hc i c hi
        exact ⟨u, by simpa using h6, h7, g4 _ _ h8⟩
      · rw [if_neg h5] at hi ⊢
        by_cases h6 : i < n + q.1.length
        · rw [if_pos h6] at hi ⊢
          have hlt := lt_of_getElem? hi
          obtain ⟨u, h7, h8, h9⟩ := h4 (i - n) (ys[i - n]'(by omega)) (by simp)
          exact ⟨u, by simpa using h7, h8, g5 _ _ c (by simp) hi u h9⟩
        · rw [if_neg h6] at hi ⊢
          obtain ⟨u, h7, h8, h9⟩ := hc i c hi
          exact ⟨u, by simpa using h7, h8, g4 _ _ h9⟩)
    rw [g2] at hr1
    rw [← mid_box (v := .undef)] at hr1
    exact ⟨G1, undef, _, .inr ⟨by simp only [execOp, ho, e1, Instr.storeAt, Instr.sureAddr]; simp [hrun], rfl⟩, hr1, .undef _⟩
  · cases hev

/-- A row gets the name of the variable that holds it. -/
theorem m_asgo (h : Rel F G σ a w) (hle : σh.le σ) {y : Operand} {x : Opd} (ho : o.op = .assign y) (hx : opdOK y x = true) (hd : σh.tl (0, d, 0) = σ.tl (0, d, 0)) {r : Res} (hev : evK σh d (.asgo x) = some r) : Out P F σ a w o r := by
  have h1 := opd_rel h hx
  have hrev : σh.rev (0, d, 0) = σ.rev (0, d, 0) := by simp only [AS.rev, hd]
  have hold : ∀ n0 k0, σ.tl (0, d, 0) = some (n0, k0) → n0 < σ.rev (0, d, 0) := fun n0 k0 hg => by simp only [AS.rev, hg]; omega
  simp only [evK, hle.val, hrev] at hev
  split at hev
  · rename_i g q xs hp
    rw [hp] at h1
    split at hev
    case h_2 => cases hev
    rename_i q' n sz htl
    split at hev
    · simp only [Option.some.injEq] at hev
      subst hev
      exact Val.out h ⟨a.eval y, .inl (by simp [execOp, ho]), h1, rfl, rfl⟩
    · rename_i hne
      split at hev
      case isFalse => cases hev
      rename_i hc
      obtain ⟨rfl, rfl⟩ := hc
      simp only [Option.some.injEq] at hev
      subst hev
      have htl' := hle.tl _ _ htl
      obtain ⟨n1, k1, hrep, h2, h3, h4⟩ := h1.inv_tip
      rw [htl'] at h2
      simp only [Option.some.injEq, Prod.mk.injEq] at h2
      obtain ⟨rfl, rfl⟩ := h2
      obtain ⟨hxe, _, hVV⟩ := h4 rfl _ _ rfl
      have hV := hVV rfl
      obtain ⟨bl, hrow⟩ := h.rows g _ _ htl'
      obtain ⟨q1, q2, q3⟩ := h.called (w' := w) (K' := G.K) (keys := [.inr g]) (bxs := []) (ls := [(g, q + 1, .spent)]) rfl (Keep.refl _ _) h.kok (Ext.refl _ _) (fun _ _ _ => rfl) (fun x hx => by cases hx) (fun x hx => by
        simp only [List.mem_singleton] at hx
        subst hx
        refine .inl ⟨rfl, fun n k hg => ?_⟩
        simp only at hg
        rw [htl'] at hg
        simp only [Option.some.injEq, Prod.mk.injEq] at hg
        obtain ⟨rfl, _⟩ := hg
        simp) (fun z hz => by
        simp only [List.mem_singleton] at hz
        exact .inr ⟨g, hz, _, List.mem_singleton.2 rfl, rfl⟩)
      have hother : ((σ.setBs []).setLs [(g, q + 1, .spent)]).tl (0, d, 0) = σ.tl (0, d, 0) := by
        simp only [AS.setBs, AS.setLs, AS.setL]
        rw [if_neg (fun e => hne e.symm)]
      obtain ⟨G1, g1, g2, g3, g4, g5, g6⟩ := q1.attach (g0 := (0, d, 0)) (r := σ.rev (0, d, 0)) (k := .tip xs.length sz) (V' := G.V g) (fun n0 k0 hg => by
        rw [hother] at hg
        exact hold n0 k0 hg) ⟨bl, hrow⟩ (fun b hb => by
        have hbg : G.blk σ (.inr g) = some b := blk_inr_mk htl' (by simp) hb
        refine ⟨fun x hx => ?_, h.mine _ _ hbg⟩
        obtain ⟨h5, h6⟩ := q3 x b hx
        have e := h.disj _ _ _ h5 hbg
        rcases h6 g e with h7 | ⟨z, hz, _, h7⟩
        · exact h7 _ (List.mem_singleton.2 rfl) rfl
        · simp only [List.mem_singleton] at hz
          subst hz
          exact h7 rfl)
      refine ⟨G1, a.eval y, w, .inl (by simp [execOp, ho]), g1, ?_⟩
      refine .tip (0, d, 0) (σ.rev (0, d, 0)) xs (σ.rev (0, d, 0)) (.tip xs.length sz) ?_ (by simp [AS.mid, AS.setBs, AS.setLs, AS.setL]) (Nat.le_refl _) fun _ m sz' hk => ?_
      · rw [g2]
        exact hrep
      · cases hk
        exact ⟨hxe, Nat.le_refl _, fun _ => hV.trans g4.symm⟩
  · rename_i sz hp
    simp only [Option.some.injEq] at hev
    subst hev
    rw [hp] at h1
    have e1 := h1.inv_nil
    obtain ⟨G1, g1, g2, g3, g4, g5, g6⟩ := h.attach (g0 := (0, d, 0)) (r := σ.rev (0, d, 0)) (k := .tip 0 sz) (V' := .slice none 0 0) hold ⟨[], .nil sz⟩ (fun b hb => by simp [Value.ownBlock] at hb)
    refine ⟨G1, a.eval y, w, .inl (by simp [execOp, ho]), g1, ?_⟩
    rw [e1]
    refine .tip (0, d, 0) (σ.rev (0, d, 0)) [] (σ.rev (0, d, 0)) (.tip 0 sz) (.slice0 _ _) (by simp [AS.mid, AS.setBs, AS.setLs, AS.setL]) (Nat.le_refl _) fun _ m sz' hk => ?_
    cases hk
    exact ⟨by simp, Nat.le_refl _, fun _ => g4.symm⟩
  · cases hev

theorem kind_ok (h : Rel F G σ a w) {vb vl : Vis} {op : Op} {k : AK} (ho : o.op = op) (hk : kOK P op k = true ∨ kmOK P d vb vl op k = true) {r : Res} (hev : evK (σ.see vb vl) d k = some r) : Out P F σ a w o r := by
  have hle := AS.see_le σ vb vl
  rcases hk with hk | hk
  · unfold kOK at hk
    split at hk
    · exact (v_mv h hle (.inl ho) hk hev).out h
    · exact (v_mv h hle (.inr ho) hk hev).out h
    · simp only [Bool.and_eq_true] at hk
      exact (v_pick h hle ho hk.1.1 hk.1.2 hk.2 hev).out h
    · simp only [Bool.and_eq_true, decide_eq_true_eq] at hk
      obtain ⟨⟨rfl, h1⟩, h2⟩ := hk
      exact (v_bin h hle ho h1 h2 hev).out h
    · simp only [Bool.and_eq_true, decide_eq_true_eq] at hk
      obtain ⟨⟨⟨rfl, h1⟩, h2⟩, h3⟩ := hk
      exact (v_bnb h hle ho h1 h2 h3 hev).out h
    · simp only [Bool.and_eq_true, decide_eq_true_eq] at hk
      obtain ⟨rfl, h1⟩ := hk
      exact (v_un h hle ho h1 hev).out h
    · simp only [Bool.and_eq_true] at hk
      exact (v_fa h hle ho hk.1 hk.2 hev).out h
    · simp only [Bool.and_eq_true] at hk
      exact (v_ia h hle ho hk.1.1 hk.1.2 hk.2 hev).out h
    · simp only [Bool.and_eq_true] at hk
      exact (v_iam h hle ho hk.1.1 hk.1.2 hk.2 hev).out h
    · simp only [Bool.and_eq_true, decide_eq_true_eq] at hk
      exact (v_ld h hle ho hk.1.1 hk.1.2 hk.2 hev).out h
    · simp only [Bool.and_eq_true, decide_eq_true_eq] at hk
      exact (v_ldm h hle ho hk.1.1 hk.1.2 hk.2 hev).out h
    · simp only [Bool.and_eq_true, decide_eq_true_eq] at hk
      obtain ⟨h1, rfl⟩ := hk
      exact (v_ex h hle ho h1 hev).out h
    · exact (v_nc h hle ho hk hev).out h
    · simp only [Bool.and_eq_true] at hk
      exact (v_ix h hle ho hk.1.1 hk.1.2 hk.2 hev).out h
    · simp only [Bool.and_eq_true] at hk
      exact (v_ss h hle ho hk.1.1.1 hk.1.1.2 hk.1.2 hk.2 hev).out h
    · simp only [Bool.and_eq_true] at hk
      exact (v_sl h hle ho hk.1.1.1 hk.1.1.2 hk.1.2 hk.2 hev).out h
    · simp only [Bool.and_eq_true] at hk
      exact (v_cvi h hle ho hk.1 hk.2 hev).out h
    · split at hk
      case h_2 => cases hk
      rename_i hc
      split at hk
      case h_2 => cases hk
      rename_i hca hct
      simp only [Bool.and_eq_true] at hk
      exact (v_len h hle ho hc hca hct hk.1 hk.2 hev).out h
    · split at hk
      case h_2 => cases hk
      rename_i hc
      split at hk
      case h_2 => cases hk
      rename_i hca hct
      simp only [Bool.and_eq_true] at hk
      exact (v_lenm h hle ho hc hca hct hk.1 hk.2 hev).out h
    · split at hk
      case h_2 => cases hk
      rename_i hc
      split at hk
      case h_2 => cases hk
      rename_i hca hct
      simp only [Bool.and_eq_true] at hk
      exact (v_lens h hle ho hc hca hct hk.1 hk.2 hev).out h
    · split at hk
      case h_2 => cases hk
      rename_i hc
      split at hk
      case h_2 => cases hk
      rename_i hca
      simp only [Bool.and_eq_true] at hk
      exact (v_mx h hle ho hc hca hk.1 hk.2 hev).out h
    · simp only [Bool.and_eq_true, decide_eq_true_eq] at hk
      obtain ⟨⟨rfl, h1⟩, h2⟩ := hk
      exact (v_mf h hle ho h1 h2 hev).out h
    · cases hk
  · unfold kmOK at hk
    have h0 : vl.has d = true → ∀ {b : Bool}, ((σ.see vb vl).tl (0, d, 0)).isNone = b → (σ.tl (0, d, 0)).isNone = b := fun h1 b h2 => by
      rw [see_tl _ _ _ _ h1] at h2
      exact h2
    split at hk
    · simp only [Bool.and_eq_true] at hk
      refine m_asg h ho hk.1 ?_ (d := d)
      simp only [evK, hle.val] at hev ⊢
      split at hev
      · rw [see_tl _ _ _ _ (show vl.has (Tag.site (0, d, 0)) = true from hk.2)] at hev
        exact hev
      · exact hev
    · simp only [Bool.and_eq_true] at hk
      refine m_asm h ho hk.1 ?_ (d := d)
      simp only [evK, hle.val] at hev ⊢
      split at hev
      · rw [see_tl _ _ _ _ (show vl.has (Tag.site (0, d, 0)) = true from hk.2)] at hev
        exact hev
      · exact hev
    · simp only [Bool.and_eq_true] at hk
      exact m_asgo h hle ho hk.1 (see_tl _ _ _ _ hk.2) hev
    · simp only [Bool.and_eq_true] at hk
      refine m_al h ho hk.1.1 ?_ (d := d)
      simp only [evK] at hev ⊢
      split at hev
      · rename_i hc
        rw [Bool.and_eq_true, see_box _ _ _ _ hk.1.2] at hc
        rw [if_pos (by rw [Bool.and_eq_true]; exact ⟨hc.1, see_freshL _ _ _ _ hk.2 _ _ hc.2⟩)]
        exact hev
      · cases hev
    · rename_i sz0
      simp only [Bool.and_eq_true] at hk
      refine m_bx h ho hk.1.1 (sz := sz0) ?_ (d := d)
      · simp only [evK, hle.val] at hev ⊢
        split at hev
        · split at hev
          · rename_i hc
            simp only [Bool.and_eq_true, see_box _ _ _ _ hk.1.2] at hc
            rw [if_pos (by simp only [Bool.and_eq_true]; exact ⟨hc.1, see_freshL _ _ _ _ hk.2 _ _ hc.2⟩)]
            exact hev
          · cases hev
        · cases hev
    · simp only [Bool.and_eq_true] at hk
      have hn : ((σ.see vb vl).tl (0, d, 0)).isNone = true := by
        simp only [evK] at hev
        split at hev
        · split at hev
          · assumption
          · cases hev
        · cases hev
      exact m_bs h hle ho hk.1 (h0 hk.2 hn) hev
    · simp only [Bool.and_eq_true] at hk
      have hn : ((σ.see vb vl).tl (0, d, 0)).isNone = true := by
        simp only [evK] at hev
        split at hev
        · split at hev
          · assumption
          · cases hev
        · cases hev
      exact m_bm h hle ho hk.1 (h0 hk.2 hn) hev
    · simp only [Bool.and_eq_true] at hk
      exact m_st h hle ho hk.1.1 hk.1.2 hk.2 hev
    · simp only [Bool.and_eq_true] at hk
      exact m_stm h hle ho hk.1.1 hk.1.2 hk.2 hev
    · simp only [Bool.and_eq_true] at hk
      exact m_stn h hle ho hk.1.1.1 hk.1.1.2 hk.1.2 (fun g hg => see_tl _ _ _ _ (by rw [hg]; exact hk.2)) hev
    · simp only [Bool.and_eq_true] at hk
      exact m_app h hle ho hk.1 (fun hn => h0 hk.2 hn) hev
    · exact (v_bd h hle ho hk hev).out h
    · simp only [Bool.and_eq_true] at hk
      exact (v_fld h hle ho hk.1 hk.2 hev).out h
    · simp only [Bool.and_eq_true] at hk
      have hn : ((σ.see vb vl).tl (0, d, 0)).isNone = true := by
        simp only [evK] at hev
        split at hev
        · split at hev
          · rename_i hc
            exact hc.2.2.2.2
          · cases hev
        · cases hev
      exact m_mk h hle ho hk.1.1.1 hk.1.1.2 hk.1.2 (h0 hk.2 hn) hev
    · simp only [Bool.and_eq_true] at hk
      exact (v_cvs h hle ho hk.1 hk.2 hev).out h
    · cases hk

end

end Go.Proofs.Ytfhgjhchjekbgaa
set_option linter.unusedVariables false
set_option linter.unusedSimpArgs false
namespace Go.Proofs.Ytfhgjhchjekbgaa
open Go

def gOK (ops : Array Oper) : Option (Nat × Bool) → Option (Nat × Bool) → Bool
  | none, none => true
  | some (j, b), some (t, c) => decide (b = c) && decide ((ops[j]?).bind (·.dst) = some t)
  | _, _ => false
def dOK (nt : Nat) : Option Nat → Bool
  | some d => decide (d < nt)
  | none => true
def oOK (P : Program) (nt : Nat) (ops : Array Oper) (o : Oper) (x : AO) : Bool :=
  decide (o.dst = x.dst) && dOK nt x.dst && gOK ops o.guard x.g && (kOK P o.op x.k || kmOK P (x.dst.getD 0) x.vb x.vl o.op x.k || kcOK (x.dst.getD 0) x.vb x.vl o.op x.k)

section
variable {F : Fr} {G G' : Gh} {σ σh : AS} {a : Act} {w w' : World} {P : Program} {o : Oper} {d : Nat}

/-- The result is put away. -/
theorem Rel.app {r : Res} {dst : Option Nat} (h : Rel F G (σ.mid r) a w) (hd : dOK F.nt dst = true) {v : Value} (hv : IRel G (σ.mid r).box (σ.mid r).tl w v r.v) : Rel F G (σ.app dst r) (a.put dst v) w := by
  cases dst with
  | none => exact h
  | some d => exact h.setT (by simpa [dOK] using hd) hv

theorem vis_same {vb vl : Vis} (h : vb.same vl = true) : vb = vl := by
  cases vb <;> cases vl <;> simp [Vis.same] at h <;> rw [h]

theorem lent_noCz {args : List (Opd × Mode)} (h : lent args = false) : noCz args := by
  intro x hx e
  simp only [lent, List.any_eq_false] at h
  have := h x hx
  rw [e] at this
  simp at this

theorem step_ok (h : Rel F G σ a w) {x : AO} (hd : o.dst = x.dst) (hdn : dOK F.nt x.dst = true) (hk : (kOK P o.op x.k || kmOK P (x.dst.getD 0) x.vb x.vl o.op x.k || kcOK (x.dst.getD 0) x.vb x.vl o.op x.k) = true)
    {R : Res → Prop} (hs : stepK (Ev P) (σ.see x.vb x.vl) (x.dst.getD 0) x.k R) {K : Act → World → Prop} {Q : Exit → Act → World → Prop}
    (hK : ∀ G' r a' w', R r → Rel F G' (σ.app x.dst r) a' w' → K a' w') : o.wp P a w K Q := by
  have hle := AS.see_le σ x.vb x.vl
  have fin : ∀ {r : Res}, R r → ∀ G' v w', Rel F G' (σ.mid r) a w' → IRel G' (σ.mid r).box (σ.mid r).tl w' v r.v → K (a.put o.dst v) w' := fun {r} hr G' v w' h1 h2 => by
    rw [hd]
    exact hK G' r _ w' hr (h1.app hdn h2)
  have plain : (kOK P o.op x.k || kmOK P (x.dst.getD 0) x.vb x.vl o.op x.k) = true → ∀ {r : Res}, evK (σ.see x.vb x.vl) (x.dst.getD 0) x.k = some r → R r → o.wp P a w K Q := by
    intro hk r hev hr
    rw [Bool.or_eq_true] at hk
    obtain ⟨G', v, w', h1, h2, h3⟩ := kind_ok h (d := x.dst.getD 0) rfl hk hev
    have h4 := fin hr G' v w' h2 h3
    unfold Oper.wp
    rcases h1 with h1 | ⟨h1, rfl⟩
    · rw [h1]
      exact h4
    · rw [h1]
      exact h4
  rw [Bool.or_eq_true] at hk
  rcases hk with hk | hk
  · unfold stepK at hs
    split at hs
    · rename_i f args e
      rw [e] at hk
      exfalso
      revert hk
      cases o.op <;> simp [kOK, kmOK]
    · rename_i y args e
      rw [e] at hk
      exfalso
      revert hk
      cases o.op <;> simp [kOK, kmOK]
    · split at hs
      · rename_i r hev
        exact plain hk hev hs
      · exact hs.elim
  · unfold kcOK at hk
    split at hk
    · rename_i c f args hop hxk
      rw [hxk] at hs
      simp only [stepK] at hs
      split at hs
      case h_2 => exact hs.elim
      rename_i os hos
      obtain ⟨r, outs, hE, hs⟩ := hs
      split at hs
      case h_2 => exact hs.elim
      rename_i res hres
      simp only [Bool.and_eq_true] at hk
      obtain ⟨hk1, hk2⟩ := hk
      cases hl : lent args with
      | true =>
        simp only [hl, if_true] at hk2
        exact wp_call_lent h hle hop hk1 hl hk2 hos hE hres (fin hs)
      | false =>
        simp only [hl, Bool.false_eq_true, if_false, Bool.and_eq_true] at hk2
        obtain ⟨hk2, hk3⟩ := hk2
        have hvv := vis_same hk2
        refine wp_call h hle hop hk1 (lent_noCz hl) hos hE hres (fun s cs hs g hg => ?_) (see_box _ _ _ _ hk3) (fun g hg => see_tl _ _ _ _ (by rw [hg, ← hvv]; exact hk3)) (fin hs)
        have hv : x.vb.has s = true := by
          simp only [AS.see] at hs
          split at hs
          · assumption
          · cases hs
        exact see_tl _ _ _ _ (by rw [hg, ← hvv]; exact hv)
    · rename_i c y args hop hxk
      rw [hxk] at hs
      simp only [stepK] at hs
      split at hs
      case h_2 => exact hs.elim
      rename_i f caps os hfn hos
      obtain ⟨r, hE, hs⟩ := hs
      split at hs
      case h_2 => exact hs.elim
      rename_i res hres
      simp only [Bool.and_eq_true] at hk
      obtain ⟨⟨hk1, hk2⟩, hk3⟩ := hk
      have hvv := vis_same hk2
      refine wp_callv h hle hop hk1 hfn hos hE hres (fun s cs hs g hg => ?_) (see_box _ _ _ _ hk3) (fun g hg => see_tl _ _ _ _ (by rw [hg, ← hvv]; exact hk3)) (fin hs)
      have hv : x.vb.has s = true := by
        simp only [AS.see] at hs
        split at hs
        · assumption
        · cases hs
      exact see_tl _ _ _ _ (by rw [hg, ← hvv]; exact hv)
    · cases hk

theorem op_ok (h : Rel F G σ a w) {ops : Array Oper} {i : Nat} (hi : ops[i]? = some o) {x : AO} (hk : oOK P F.nt ops o x = true) {R : AS → Prop} (hs : awOp (Ev P) x R σ) {K : Act → World → Prop} {Q : Exit → Act → World → Prop}
    (hK : ∀ G' σ' a' w', R σ' → Rel F G' σ' a' w' → K a' w') : wpOp P ops Q i K a w := by
  unfold oOK at hk
  simp only [Bool.and_eq_true, decide_eq_true_eq] at hk
  obtain ⟨⟨⟨hd, hdn⟩, hg⟩, hk⟩ := hk
  have hdo : dOK F.nt o.dst = true := by rw [hd]; exact hdn
  unfold wpOp
  simp only [hi]
  unfold awOp at hs
  unfold gOK at hg
  split at hs
  · rename_i e
    rw [e] at hg
    split at hg
    · rename_i e2 _
      simp only [Region.wanted, e2, if_true]
      exact .inl (step_ok h hd hdn hk hs fun G' r a' w' hr hrel => hK G' _ a' w' hr hrel)
    · rename_i h1
      cases h1
    · cases hg
  · rename_i t want e
    rw [e] at hg
    split at hg
    · rename_i h1
      cases h1
    · rename_i j b t' c' e2 e3
      simp only [Option.some.injEq, Prod.mk.injEq] at e3
      obtain ⟨rfl, rfl⟩ := e3
      simp only [Bool.and_eq_true, decide_eq_true_eq] at hg
      obtain ⟨rfl, hg⟩ := hg
      split at hs
      case h_3 => exact hs.elim
      case h_2 hc =>
        have ht := h.tmps t
        rw [hc] at ht
        have hv : a.tmps.getD t undef = undef := by
          have h5 := ht.inv_p
          generalize a.tmps.getD t undef = v at h5
          cases h5 with
          | tup vs cs f hl _ _ =>
            have : vs = #[] := Array.eq_empty_of_size_eq_zero (by simpa using hl)
            rw [this]
            rfl
        have hy : yielded ops a.tmps j = none := by
          unfold yielded
          rw [hg]
          simp only [Option.bind_some]
          cases hh : a.tmps[t]? with
          | none => rfl
          | some u =>
            rw [Array.getD_eq_getD_getElem?, hh] at hv
            simp at hv
            subst hv
            rfl
        have hw : Region.wanted o (yielded ops a.tmps) = false := by
          simp only [Region.wanted, e2, hy]
          rfl
        rw [hw]
        simp only [Bool.false_eq_true, if_false]
        refine hK G _ _ w hs ?_
        rw [hd]
        exact Rel.app (σ := σ) (r := { v := .p (.tup []) }) h hdn (.p (.tup #[] [] (fun _ => undef) rfl (by simp) (by simp)))
      rename_i c hc
      have ht := h.tmps t
      rw [hc] at ht
      have hv := ht.inv_p.inv_bool
      have hy : yielded ops a.tmps j = some c := by
        unfold yielded
        rw [hg]
        simp only [Option.bind_some]
        cases hh : a.tmps[t]? with
        | none =>
          rw [Array.getD_eq_getD_getElem?, hh] at hv
          simp [undef] at hv
        | some u =>
          rw [Array.getD_eq_getD_getElem?, hh] at hv
          simp at hv
          subst hv
          rfl
      have hw : Region.wanted o (yielded ops a.tmps) = (c == b) := by
        simp only [Region.wanted, e2, hy]
        cases c <;> cases b <;> rfl
      rw [hw]
      by_cases hcb : c = b
      · subst hcb
        simp only [beq_self_eq_true, if_true] at hs ⊢
        exact .inl (step_ok h hd hdn hk hs fun G' r a' w' hr hrel => hK G' _ a' w' hr hrel)
      · have hcb' : (c == b) = false := by simpa using hcb
        rw [if_neg hcb] at hs
        simp only [hcb', Bool.false_eq_true, if_false]
        refine hK G _ _ w hs ?_
        rw [hd]
        exact Rel.app (σ := σ) (r := { v := .p (.tup []) }) h hdn (.p (.tup #[] [] (fun _ => undef) rfl (by simp) (by simp)))
    · cases hg

def opsOK (P : Program) (nt : Nat) (ops : Array Oper) : List Oper → List AO → Bool
  | [], [] => true
  | o :: os, x :: xs => oOK P nt ops o x && opsOK P nt ops os xs
  | _, _ => false

theorem ops_ok {ops : Array Oper} {Q : Exit → Act → World → Prop} {R : AS → Prop} (hQ : ∀ G' σ' a' w', R σ' → Rel F G' σ' a' w' → Q .normal a' w') : ∀ (l : List Oper) (xs : List AO) (n : Nat) {G : Gh} {σ : AS} {a : Act} {w : World}, ops.toList.drop n = l → opsOK P F.nt ops l xs = true → awOps (Ev P) xs R σ → Rel F G σ a w →
    wpOps P ops Q (List.range' n l.length) a w
  | [], [], n, G, σ, a, w, _, _, hs, h => hQ G σ a w hs h
  | [], _ :: _, _, _, _, _, _, _, hk, _, _ => by simp [opsOK] at hk
  | _ :: _, [], _, _, _, _, _, _, hk, _, _ => by simp [opsOK] at hk
  | o :: l, x :: xs, n, G, σ, a, w, hl, hk, hs, h => by
    simp only [opsOK, Bool.and_eq_true] at hk
    rw [List.length_cons, List.range'_succ, wpOps_cons]
    have hi : ops[n]? = some o := by
      have := congrArg (·[0]?) hl
      simp only [List.getElem?_drop, Nat.add_zero, List.getElem?_cons_zero, Array.getElem?_toList] at this
      exact this
    refine op_ok h hi hk.1 hs fun G' σ' a' w' hs' h' => ?_
    refine ops_ok hQ l xs (n + 1) ?_ hk.2 hs' h'
    rw [← List.drop_drop, hl]
    rfl

end

end Go.Proofs.Ytfhgjhchjekbgaa
set_option linter.unusedVariables false
set_option linter.unusedSimpArgs false
namespace Go.Proofs.Ytfhgjhchjekbgaa
open Go

def AK.opds : AK → List Opd
  | .mv x | .asg x | .asm x | .asgo x | .un _ x | .fa x _ | .ld x _ _ | .ldm x _ _ | .bx x _ | .ex x _ | .nc x | .cvi _ x | .cvs x | .len x | .lenm x | .lens x | .fld x _ _ _ => [x]
  | .pick c a b => [c, a, b]
  | .bin _ x y | .bnb _ x y | .ia x y _ | .iam x y _ | .st x y _ _ | .stn x y _ _ | .stm x y _ | .ix x y | .app x y _ _ | .mx x y => [x, y]
  | .al _ => []
  | .bs _ xs | .bm _ xs => xs
  | .bd _ ps => ps.map (·.2.2)
  | .ss x lo hi => x :: (lo.toList ++ hi.toList)
  | .sl x lo hi _ => x :: (lo.toList ++ hi.toList)
  | .mf _ xs => xs
  | .mk x _ _ _ => [x]
  | .call _ args => args.map (·.1)
  | .callv x args => x :: args
def AO.reads (o : AO) : List Nat := (o.k.opds.flatMap fun | .t n => [n] | _ => []) ++ (match o.g with
  | some (t, _) => [t]
  | none => [])
/-- The variables it looks at or writes. -/
def AO.fb (o : AO) : Vis := match o.k with
  | .ld _ _ _ | .st _ _ _ _ | .stn _ _ _ _ | .call _ _ | .callv _ _ => o.vb
  | .al _ | .bx _ _ => .only [o.dst.getD 0]
  | _ => .only []
/-- The rows it looks at or writes. -/
def AO.fl (o : AO) : Vis := match o.k with
  | .iam _ _ _ | .ldm _ _ _ | .lenm _ | .stm _ _ _ | .app _ _ _ _ | .asgo _ | .call _ _ | .callv _ _ => o.vl
  | .stn _ _ _ s => .only [s]
  | .asg _ | .asm _ | .al _ | .bx _ _ | .bs _ _ | .bm _ _ | .mk _ _ _ _ => .only [o.dst.getD 0]
  | _ => .only []
def AO.wb (o : AO) : Bool := match o.k with
  | .st _ _ _ _ | .stn _ _ _ _ | .call _ _ | .callv _ _ | .al _ | .bx _ _ => true
  | _ => false
def AO.wl (o : AO) : Bool := match o.k with
  | .stm _ _ _ | .stn _ _ _ _ | .app _ _ _ _ | .asgo _ | .call _ _ | .callv _ _ | .asg _ | .asm _ | .al _ | .bx _ _ | .bs _ _ | .bm _ _ | .mk _ _ _ _ => true
  | _ => false
/-- What it creates is in sight; a call sees rows and variables alike. -/
def AO.fair (o : AO) : Bool := match o.k with
  | .call _ _ | .callv _ _ => o.vb.same o.vl && o.vb.has (o.dst.getD 0)
  | .stn _ _ _ s => o.vl.has s
  | .al _ | .bx _ _ => o.vb.has (o.dst.getD 0) && o.vl.has (o.dst.getD 0)
  | .app _ _ _ _ | .asgo _ | .asg _ | .asm _ | .bs _ _ | .bm _ _ | .mk _ _ _ _ => o.vl.has (o.dst.getD 0)
  | _ => true
def Vis.disj : Vis → Vis → Bool
  | .only a, .only b => a.all fun x => !b.contains x
  | .only a, .but b => a.all fun x => b.contains x
  | .but a, .only b => b.all fun x => a.contains x
  | .but _, .but _ => false
theorem Vis.disj_spec {x y : Vis} (h : x.disj y = true) {s : Nat} (hx : x.has s = true) : y.has s = false := by
  cases x <;> cases y <;> simp [Vis.disj, Vis.has] at h hx ⊢
  · rename_i a b
    exact fun hb => hx (h s hb)
  · exact h s hx
  · exact h s hx

/-- Two operations that may change places. -/
def AO.indep (x y : AO) : Bool :=
  (match x.dst with
  | some d => !(y.reads).contains d && decide (y.dst ≠ some d)
  | none => true) && (match y.dst with
  | some d => !(x.reads).contains d
  | none => true) && x.fair && y.fair && (!(x.wb || y.wb) || x.fb.disj y.fb) && (!(x.wl || y.wl) || x.fl.disj y.fl)

section
variable {σ σ1 σ2 : AS} {d : Nat}

theorem see_val (σ : AS) (vb vl : Vis) (x : Opd) : (σ.see vb vl).val x = σ.val x := (AS.see_le σ vb vl).val x
theorem see_boxes {vb vl : Vis} (h : ∀ s, vb.has s = true → σ1.box s = σ2.box s) : (σ1.see vb vl).box = (σ2.see vb vl).box := by
  funext s
  simp only [AS.see]
  split
  · rename_i hs
    exact h s hs
  · rfl
theorem see_tls {vb vl : Vis} (h : ∀ g : Tag, vl.has g.site = true → σ1.tl g = σ2.tl g) : (σ1.see vb vl).tl = (σ2.see vb vl).tl := by
  funext g
  simp only [AS.see]
  split
  · rename_i hs
    exact h g hs
  · rfl

theorem elemsOf_congr {sz : Nat} : ∀ {xs : List Opd}, (∀ x ∈ xs, σ1.val x = σ2.val x) → elemsOf σ1 sz xs = elemsOf σ2 sz xs
  | [], _ => rfl
  | x :: xs, h => by
    simp only [elemsOf]
    rw [h x (by simp), elemsOf_congr (xs := xs) (fun y hy => h y (by simp [hy]))]
theorem fillParts_congr : ∀ {ps : List (Nat × Nat × Opd)} {cs : List IV}, (∀ x ∈ ps, σ1.val x.2.2 = σ2.val x.2.2) → fillParts σ1 cs ps = fillParts σ2 cs ps
  | [], cs, _ => rfl
  | (o, n, x) :: ps, cs, h => by
    have h0 := h (o, n, x) (by simp)
    simp only at h0
    have ih : ∀ cs, fillParts σ1 cs ps = fillParts σ2 cs ps := fun cs => fillParts_congr (fun y hy => h y (by simp [hy]))
    simp only [fillParts, h0, ih]
theorem bound_congr {n : Nat} {x : Option Opd} (h : ∀ y ∈ x.toList, σ1.val y = σ2.val y) : bound? σ1 n x = bound? σ2 n x := by
  cases x with
  | none => rfl
  | some y =>
    simp only [bound?]
    rw [h y (by simp)]
theorem caps_congr {xs : List Opd} (h : ∀ x ∈ xs, σ1.val x = σ2.val x) : xs.map σ1.val = xs.map σ2.val := List.map_congr_left h

theorem leaf_congr {b : Bool} {x : IV} (h : σ1.tl = σ2.tl) : x.leaf b σ1 = x.leaf b σ2 := by
  unfold IV.leaf
  rw [h]
theorem leaves_congr (h : σ1.tl = σ2.tl) : ∀ {fl : List Bool} {cs : List IV}, leaves σ1 fl cs = leaves σ2 fl cs
  | [], [] => rfl
  | [], _ :: _ => rfl
  | _ :: _, [] => rfl
  | b :: fl, x :: cs => by
    simp only [leaves]
    rw [leaf_congr h, leaves_congr h]
theorem capOf_congr (h : σ1.box = σ2.box) : ∀ {cs : List IV}, capOf σ1 cs = capOf σ2 cs := by
  intro cs
  fun_induction capOf σ1 cs <;> simp_all [capOf]
theorem argOf_congr (hb : σ1.box = σ2.box) (ht : σ1.tl = σ2.tl) {x : IV} {m : Mode} : argOf σ1 x m = argOf σ2 x m := by
  cases m <;> simp only [argOf, leaf_congr ht, leaves_congr ht, hb, capOf_congr hb, IV.moLeaf, ht]
theorem argsOf_congr (hb : σ1.box = σ2.box) (ht : σ1.tl = σ2.tl) : ∀ {args : List (Opd × Mode)}, (∀ x ∈ args, σ1.val x.1 = σ2.val x.1) → argsOf σ1 args = argsOf σ2 args
  | [], _ => rfl
  | (x, m) :: args, h => by
    simp only [argsOf]
    rw [h (x, m) (by simp), argOf_congr hb ht, argsOf_congr hb ht (fun y hy => h y (by simp [hy]))]
theorem keysOf_congr (hb : σ1.box = σ2.box) : ∀ {args : List (Opd × Mode)}, (∀ x ∈ args, σ1.val x.1 = σ2.val x.1) → keysOf σ1 args = keysOf σ2 args
  | [], _ => rfl
  | (x, m) :: args, h => by
    rw [keysOf_cons, keysOf_cons, h (x, m) (by simp), keysOf_congr hb (fun y hy => h y (by simp [hy]))]
    unfold argKeys
    rw [hb]
theorem goneOf_congr (hb : σ1.box = σ2.box) : ∀ {args : List (Opd × Mode)}, (∀ x ∈ args, σ1.val x.1 = σ2.val x.1) → goneOf σ1 args = goneOf σ2 args
  | [], _ => rfl
  | (x, m) :: args, h => by
    rw [goneOf_cons, goneOf_cons, h (x, m) (by simp), goneOf_congr hb (fun y hy => h y (by simp [hy]))]
    unfold argGone
    rw [hb]
theorem sitesOf_congr : ∀ {args : List (Opd × Mode)}, (∀ x ∈ args, σ1.val x.1 = σ2.val x.1) → sitesOf σ1 args = sitesOf σ2 args
  | [], _ => rfl
  | (x, m) :: args, h => by
    rw [sitesOf_cons, sitesOf_cons, h (x, m) (by simp), sitesOf_congr (fun y hy => h y (by simp [hy]))]
theorem rev_congr (ht : σ1.tl = σ2.tl) : σ1.rev = σ2.rev := by
  funext g
  simp only [AS.rev, ht]
theorem callRes_congr (hb : σ1.box = σ2.box) (ht : σ1.tl = σ2.tl) {args : List (Opd × Mode)} (h : ∀ x ∈ args, σ1.val x.1 = σ2.val x.1) {r : RV} {outs : List OV} : callRes σ1 d args r outs = callRes σ2 d args r outs := by
  unfold callRes
  rw [sitesOf_congr h, keysOf_congr hb h, goneOf_congr hb h]
  simp only [AS.spentL, rev_congr ht, hb, AS.freshL, ht]
  cases backBx (fun g => σ2.rev g + 1) (sitesOf σ2 args) outs with
  | none => rfl
  | some b =>
    simp only
    split <;> rename_i h1
    · exact (if_pos h1).symm
    · exact (if_neg h1).symm

theorem nilCells_congr {r1 r2 : Tag → Nat} {s : Nat} (h : ∀ j, r1 (3, s, j) = r2 (3, s, j)) : ∀ {o : Nat} {ys : List IV}, nilCells r1 s o ys = nilCells r2 s o ys := by
  intro o ys
  induction ys generalizing o with
  | nil => rfl
  | cons y ys ih =>
    simp only [nilCells, ih, h]
theorem freshL_congr {zero : List IV} {d : Nat} {σ1 σ2 : AS} (h : ∀ g : Tag, g.site = d → σ1.tl g = σ2.tl g) : σ1.freshL (tipCells d 0 zero).2 = σ2.freshL (tipCells d 0 zero).2 := by
  simp only [AS.freshL]
  rw [Bool.eq_iff_iff, List.all_eq_true, List.all_eq_true]
  have key : ∀ y ∈ (tipCells d 0 zero).2, σ1.tl y.1 = σ2.tl y.1 := fun y hy => by
    obtain ⟨j, _, e⟩ := tipCells_tags d zero 0 y hy
    exact h _ (by rw [e]; rfl)
  exact ⟨fun h1 y hy => by rw [← key y hy]; exact h1 y hy, fun h1 y hy => by rw [key y hy]; exact h1 y hy⟩

variable (E : FuncId → List OV → RV → List OV → Prop)
/-- What an operation may come to. -/
def stepS (σ : AS) (d : Nat) (k : AK) (x : Res) : Prop :=
  match k with
  | .call f args => ∃ os r outs, argsOf σ args = some os ∧ E f os r outs ∧ callRes σ d args r outs = some x
  | .callv y args => ∃ f caps os r, fnOf (σ.val y) = some (f, caps) ∧ argsOf σ (args.map fun y => (y, .fz)) = some os ∧ E f (os ++ caps.map fun v => .l (.fz v)) r [] ∧ callRes σ d [] r [] = some x
  | k => evK σ d k = some x

theorem stepK_iff {k : AK} {R : Res → Prop} : stepK E σ d k R ↔ ∃ x, stepS E σ d k x ∧ R x := by
  cases k with
  | call f args =>
    simp only [stepK, stepS]
    cases hos : argsOf σ args with
    | none => simp
    | some os =>
      simp only [Option.some.injEq]
      constructor
      · rintro ⟨r, outs, h1, h2⟩
        split at h2
        · rename_i x hx
          exact ⟨x, ⟨os, r, outs, rfl, h1, hx⟩, h2⟩
        · exact h2.elim
      · rintro ⟨x, ⟨os', r, outs, rfl, h2, h3⟩, h4⟩
        refine ⟨r, outs, h2, ?_⟩
        simp only [h3]
        exact h4
  | callv y args =>
    simp only [stepK, stepS]
    cases hf : fnOf (σ.val y) with
    | none => simp
    | some fc =>
      obtain ⟨f, caps⟩ := fc
      cases hos : argsOf σ (args.map fun y => (y, Mode.fz)) with
      | none => simp
      | some os =>
        simp only [Option.some.injEq, Prod.mk.injEq]
        constructor
        · rintro ⟨r, h1, h2⟩
          split at h2
          · rename_i x hx
            exact ⟨x, ⟨f, caps, os, r, ⟨rfl, rfl⟩, rfl, h1, hx⟩, h2⟩
          · exact h2.elim
        · rintro ⟨x, ⟨f', caps', os', r, ⟨rfl, rfl⟩, rfl, h2, h3⟩, h4⟩
          refine ⟨r, h2, ?_⟩
          simp only [h3]
          exact h4
  | _ =>
    simp only [stepK, stepS]
    constructor
    · intro h
      split at h
      · rename_i x hx
        exact ⟨x, hx, h⟩
      · exact h.elim
    · rintro ⟨x, h1, h2⟩
      rw [h1]
      exact h2


/-- What an operation may come to depends on what it looks at alone. -/
theorem stepS_local {o : AO} (hf : o.fair = true) {σ1 σ2 : AS} (ht : ∀ t ∈ o.reads, σ1.tmp t = σ2.tmp t) (hb : ∀ s, o.fb.has s = true → σ1.box s = σ2.box s) (hl : ∀ g : Tag, o.fl.has g.site = true → σ1.tl g = σ2.tl g) {x : Res}
    (h : stepS E (σ1.see o.vb o.vl) (o.dst.getD 0) o.k x) : stepS E (σ2.see o.vb o.vl) (o.dst.getD 0) o.k x := by
  have hv : ∀ x ∈ o.k.opds, (σ1.see o.vb o.vl).val x = (σ2.see o.vb o.vl).val x := by
    intro x hx
    rw [see_val, see_val]
    cases x with
    | t n => exact ht n (by simp only [AO.reads, List.mem_append, List.mem_flatMap]; exact .inl ⟨_, hx, by simp⟩)
    | _ => rfl
  obtain ⟨dst, k, g, vb, vl⟩ := o
  simp only at hv h ⊢
  cases k with
  | call f args =>
    have h1 := see_boxes (σ1 := σ1) (σ2 := σ2) (vb := vb) hb (vl := vl)
    have h2 := see_tls (σ1 := σ1) (σ2 := σ2) (vl := vl) hl (vb := vb)
    have h3 : ∀ x ∈ args, (σ1.see vb vl).val x.1 = (σ2.see vb vl).val x.1 := fun x hx => hv _ (List.mem_map.2 ⟨x, hx, rfl⟩)
    obtain ⟨os, r, outs, g1, g2, g3⟩ := h
    exact ⟨os, r, outs, by rw [← argsOf_congr h1 h2 h3]; exact g1, g2, by rw [← callRes_congr h1 h2 h3]; exact g3⟩
  | callv y args =>
    have h1 := see_boxes (σ1 := σ1) (σ2 := σ2) (vb := vb) hb (vl := vl)
    have h2 := see_tls (σ1 := σ1) (σ2 := σ2) (vl := vl) hl (vb := vb)
    have h3 : ∀ x ∈ args.map (fun y => (y, Mode.fz)), (σ1.see vb vl).val x.1 = (σ2.see vb vl).val x.1 := fun x hx => by
      rw [List.mem_map] at hx
      obtain ⟨z, hz, rfl⟩ := hx
      exact hv z (by simp [AK.opds, hz])
    obtain ⟨f, caps, os, r, g0, g1, g2, g3⟩ := h
    exact ⟨f, caps, os, r, by rw [← hv y (by simp [AK.opds])]; exact g0, by rw [← argsOf_congr h1 h2 h3]; exact g1, g2, by rw [← callRes_congr h1 h2 (by simp)]; exact g3⟩
  | ld y sz ag =>
    have h1 := see_boxes (σ1 := σ1) (σ2 := σ2) (vb := vb) hb (vl := vl)
    simp only [stepS, evK] at h ⊢
    rw [← hv y (by simp [AK.opds]), ← h1]
    exact h
  | st y z sz s =>
    have h1 := see_boxes (σ1 := σ1) (σ2 := σ2) (vb := vb) hb (vl := vl)
    simp only [stepS, evK] at h ⊢
    rw [← hv y (by simp [AK.opds]), ← hv z (by simp [AK.opds]), ← h1]
    exact h
  | stn y z sz s =>
    have h1 := see_boxes (σ1 := σ1) (σ2 := σ2) (vb := vb) hb (vl := vl)
    have h2 : ∀ o ys, nilCells (σ1.see vb vl).rev s o ys = nilCells (σ2.see vb vl).rev s o ys := fun o ys => nilCells_congr fun j => by
      simp only [AS.rev]
      rw [see_tl _ _ _ _ (show vl.has (Tag.site (3, s, j)) = true from hf), see_tl _ _ _ _ (show vl.has (Tag.site (3, s, j)) = true from hf), hl _ (by simp [AO.fl, Vis.has, Tag.site])]
    simp only [stepS, evK] at h ⊢
    rw [← hv y (by simp [AK.opds]), ← hv z (by simp [AK.opds]), ← h1]
    split at h
    · split at h
      · rename_i hcd
        obtain ⟨rfl, hlen⟩ := hcd
        rw [if_pos ⟨rfl, hlen⟩]
        simp only [← h2]
        exact h
      · cases h
    · cases h
  | iam y z sz =>
    have h2 := see_tls (σ1 := σ1) (σ2 := σ2) (vl := vl) hl (vb := vb)
    simp only [stepS, evK] at h ⊢
    rw [← hv y (by simp [AK.opds]), ← hv z (by simp [AK.opds]), ← h2]
    exact h
  | ldm y sz ag =>
    have h2 := see_tls (σ1 := σ1) (σ2 := σ2) (vl := vl) hl (vb := vb)
    simp only [stepS, evK] at h ⊢
    rw [← hv y (by simp [AK.opds]), ← h2]
    exact h
  | lenm y =>
    have h2 := see_tls (σ1 := σ1) (σ2 := σ2) (vl := vl) hl (vb := vb)
    simp only [stepS, evK] at h ⊢
    rw [← hv y (by simp [AK.opds]), ← h2]
    exact h
  | stm y z sz =>
    have h2 := see_tls (σ1 := σ1) (σ2 := σ2) (vl := vl) hl (vb := vb)
    simp only [stepS, evK] at h ⊢
    rw [← hv y (by simp [AK.opds]), ← hv z (by simp [AK.opds]), ← h2]
    exact h
  | app y z sz bytes =>
    have h2 := see_tls (σ1 := σ1) (σ2 := σ2) (vl := vl) hl (vb := vb)
    simp only [stepS, evK] at h ⊢
    rw [← hv y (by simp [AK.opds]), ← hv z (by simp [AK.opds]), ← h2]
    exact h
  | asgo y =>
    have h2 := see_tls (σ1 := σ1) (σ2 := σ2) (vl := vl) hl (vb := vb)
    have h3 : (σ1.see vb vl).rev = (σ2.see vb vl).rev := rev_congr h2
    simp only [stepS, evK] at h ⊢
    rw [← hv y (by simp [AK.opds]), ← h2, ← h3]
    exact h
  | asg y =>
    have h2 : ∀ i j, (σ1.see vb vl).tl (i, dst.getD 0, j) = (σ2.see vb vl).tl (i, dst.getD 0, j) := fun i j => by
      rw [see_tl _ _ _ _ (show vl.has (Tag.site (i, dst.getD 0, j)) = true from hf), see_tl _ _ _ _ (show vl.has (Tag.site (i, dst.getD 0, j)) = true from hf)]
      exact hl _ (by simp [AO.fl, Vis.has, Tag.site])
    simp only [stepS, evK] at h ⊢
    rw [← hv y (by simp [AK.opds]), ← h2]
    exact h
  | asm y =>
    have h2 : ∀ i j, (σ1.see vb vl).tl (i, dst.getD 0, j) = (σ2.see vb vl).tl (i, dst.getD 0, j) := fun i j => by
      rw [see_tl _ _ _ _ (show vl.has (Tag.site (i, dst.getD 0, j)) = true from hf), see_tl _ _ _ _ (show vl.has (Tag.site (i, dst.getD 0, j)) = true from hf)]
      exact hl _ (by simp [AO.fl, Vis.has, Tag.site])
    simp only [stepS, evK] at h ⊢
    rw [← hv y (by simp [AK.opds]), ← h2]
    exact h
  | bs sz xs =>
    have h2 : ∀ i j, (σ1.see vb vl).tl (i, dst.getD 0, j) = (σ2.see vb vl).tl (i, dst.getD 0, j) := fun i j => by
      rw [see_tl _ _ _ _ (show vl.has (Tag.site (i, dst.getD 0, j)) = true from hf), see_tl _ _ _ _ (show vl.has (Tag.site (i, dst.getD 0, j)) = true from hf)]
      exact hl _ (by simp [AO.fl, Vis.has, Tag.site])
    simp only [stepS, evK] at h ⊢
    rw [← elemsOf_congr (xs := xs) hv, ← h2]
    exact h
  | bm sz xs =>
    have h2 : ∀ i j, (σ1.see vb vl).tl (i, dst.getD 0, j) = (σ2.see vb vl).tl (i, dst.getD 0, j) := fun i j => by
      rw [see_tl _ _ _ _ (show vl.has (Tag.site (i, dst.getD 0, j)) = true from hf), see_tl _ _ _ _ (show vl.has (Tag.site (i, dst.getD 0, j)) = true from hf)]
      exact hl _ (by simp [AO.fl, Vis.has, Tag.site])
    simp only [stepS, evK] at h ⊢
    rw [← elemsOf_congr (xs := xs) hv, ← h2]
    exact h
  | mk y sz bytes zero =>
    have h2 : ∀ i j, (σ1.see vb vl).tl (i, dst.getD 0, j) = (σ2.see vb vl).tl (i, dst.getD 0, j) := fun i j => by
      rw [see_tl _ _ _ _ (show vl.has (Tag.site (i, dst.getD 0, j)) = true from hf), see_tl _ _ _ _ (show vl.has (Tag.site (i, dst.getD 0, j)) = true from hf)]
      exact hl _ (by simp [AO.fl, Vis.has, Tag.site])
    simp only [stepS, evK] at h ⊢
    rw [← hv y (by simp [AK.opds])]
    simp only [← h2]
    exact h
  | al zero =>
    simp only [AO.fair, Bool.and_eq_true] at hf
    have h2 : (σ1.see vb vl).freshL (tipCells (dst.getD 0) 0 zero).2 = (σ2.see vb vl).freshL (tipCells (dst.getD 0) 0 zero).2 := freshL_congr fun g hg => by
      rw [see_tl _ _ _ _ (by rw [hg]; exact hf.2), see_tl _ _ _ _ (by rw [hg]; exact hf.2)]
      exact hl _ (by simp [AO.fl, Vis.has, hg])
    simp only [stepS, evK] at h ⊢
    rw [← h2, see_box _ _ _ _ hf.1, ← hb _ (by simp [AO.fb, Vis.has])]
    rw [see_box _ _ _ _ hf.1] at h
    exact h
  | bx y sz =>
    simp only [AO.fair, Bool.and_eq_true] at hf
    have h2 : ∀ zero, (σ1.see vb vl).freshL (tipCells (dst.getD 0) 0 zero).2 = (σ2.see vb vl).freshL (tipCells (dst.getD 0) 0 zero).2 := fun zero => freshL_congr fun g hg => by
      rw [see_tl _ _ _ _ (by rw [hg]; exact hf.2), see_tl _ _ _ _ (by rw [hg]; exact hf.2)]
      exact hl _ (by simp [AO.fl, Vis.has, hg])
    simp only [stepS, evK] at h ⊢
    rw [← hv y (by simp [AK.opds])]
    simp only [← h2, see_box _ _ _ _ hf.1] at h ⊢
    rw [← hb _ (by simp [AO.fb, Vis.has])]
    exact h
  | bd zero ps =>
    simp only [stepS, evK] at h ⊢
    rw [← fillParts_congr (ps := ps) (fun x hx => hv _ (List.mem_map.2 ⟨x, hx, rfl⟩))]
    exact h
  | ss y lo hi =>
    simp only [stepS, evK] at h ⊢
    rw [← hv y (by simp [AK.opds])]
    simp only [← bound_congr (x := lo) (fun z hz => hv z (by simp only [AK.opds]; exact List.mem_cons_of_mem _ (List.mem_append_left _ hz))), ← bound_congr (x := hi) (fun z hz => hv z (by simp only [AK.opds]; exact List.mem_cons_of_mem _ (List.mem_append_right _ hz)))]
    exact h
  | sl y lo hi sz =>
    simp only [stepS, evK] at h ⊢
    rw [← hv y (by simp [AK.opds])]
    simp only [← bound_congr (x := lo) (fun z hz => hv z (by simp only [AK.opds]; exact List.mem_cons_of_mem _ (List.mem_append_left _ hz))), ← bound_congr (x := hi) (fun z hz => hv z (by simp only [AK.opds]; exact List.mem_cons_of_mem _ (List.mem_append_right _ hz)))]
    exact h
  | mf f xs =>
    simp only [stepS, evK] at h ⊢
    rw [← caps_congr (xs := xs) hv]
    exact h
  | pick c y z =>
    simp only [stepS, evK] at h ⊢
    rw [← hv c (by simp [AK.opds]), ← hv y (by simp [AK.opds]), ← hv z (by simp [AK.opds])]
    exact h
  | bin op y z | bnb op y z =>
    simp only [stepS, evK] at h ⊢
    rw [← hv y (by simp [AK.opds]), ← hv z (by simp [AK.opds])]
    exact h
  | ia y z _ | ix y z | mx y z =>
    simp only [stepS, evK] at h ⊢
    rw [← hv y (by simp [AK.opds]), ← hv z (by simp [AK.opds])]
    exact h
  | un _ y =>
    simp only [stepS, evK] at h ⊢
    rw [← hv y (by simp [AK.opds])]
    exact h
  | cvi _ y =>
    simp only [stepS, evK] at h ⊢
    rw [← hv y (by simp [AK.opds])]
    exact h
  | mv y | fa y _ | ex y _ | nc y | cvs y | len y | lens y | fld y _ _ _ =>
    simp only [stepS, evK] at h ⊢
    rw [← hv y (by simp [AK.opds])]
    exact h

end

end Go.Proofs.Ytfhgjhchjekbgaa
set_option linter.unusedVariables false
set_option linter.unusedSimpArgs false
namespace Go.Proofs.Ytfhgjhchjekbgaa
open Go

section
variable {σ σ1 σ2 : AS} {d : Nat} (E : FuncId → List OV → RV → List OV → Prop)

theorem only_self (d : Nat) : (Vis.only [d]).has d = true := by simp [Vis.has]

theorem argsOf_io_vis : ∀ {args : List (Opd × Mode)} {os : List OV}, argsOf σ args = some os → ∀ s, .inl s ∈ sitesOf σ args → ∃ cs, σ.box s = some cs
  | [], os, _, s, hs => by simp [sitesOf] at hs
  | (x, m) :: args, os, ho, s, hs => by
    simp only [argsOf] at ho
    split at ho
    case h_2 => cases ho
    rename_i o os' h1 h2
    rw [sitesOf_cons, List.mem_append] at hs
    rcases hs with hs | hs
    · unfold argSites at hs
      split at hs
      · rename_i fl s' off e
        simp only [List.mem_singleton, Sum.inl.injEq] at hs
        subst hs
        simp only [argOf, e] at h1
        split at h1
        case h_2 => cases h1
        rename_i e2
        cases e2
        split at h1
        · rename_i cs hcs
          exact ⟨cs, hcs⟩
        · cases h1
      · simp at hs
      · cases hs
    · exact argsOf_io_vis h2 s hs
theorem argsOf_mu_vis : ∀ {args : List (Opd × Mode)} {os : List OV}, argsOf σ args = some os → ∀ g n, .inr (g, n) ∈ sitesOf σ args → ∃ x, σ.tl g = some x
  | [], os, _, g, n, hs => by simp [sitesOf] at hs
  | (x, m) :: args, os, ho, g, n, hs => by
    simp only [argsOf] at ho
    split at ho
    case h_2 => cases ho
    rename_i o os' h1 h2
    rw [sitesOf_cons, List.mem_append] at hs
    rcases hs with hs | hs
    · unfold argSites at hs
      split at hs
      · simp at hs
      · rename_i g' n' e
        simp only [List.mem_singleton, Sum.inr.injEq, Prod.mk.injEq] at hs
        obtain ⟨rfl, rfl⟩ := hs
        simp only [argOf, e, IV.moLeaf] at h1
        rw [Option.map_eq_some_iff] at h1
        obtain ⟨y, hy, _⟩ := h1
        split at hy
        · rename_i ht
          exact ⟨_, ht⟩
        · cases hy
      · cases hs
    · exact argsOf_mu_vis h2 g n hs

theorem see_some_box {vb vl : Vis} {s : Nat} {cs : List IV} (h : (σ.see vb vl).box s = some cs) : vb.has s = true := by
  simp only [AS.see] at h
  split at h
  · assumption
  · cases h
theorem see_some_tl {vb vl : Vis} {g : Tag} {x : Nat × RK} (h : (σ.see vb vl).tl g = some x) : vl.has g.site = true := by
  simp only [AS.see] at h
  split at h
  · assumption
  · cases h

theorem callRes_writes {v : Vis} {args : List (Opd × Mode)} {os outs : List OV} {r : RV} {x : Res} (ho : argsOf (σ.see v v) args = some os) (hx : callRes (σ.see v v) d args r outs = some x) (hd : v.has d = true) :
    (∀ y ∈ x.bx, v.has y.1 = true) ∧ ∀ y ∈ x.tls, v.has y.1.site = true := by
  unfold callRes at hx
  split at hx
  case h_2 => cases hx
  rename_i b hb
  simp only at hx
  split at hx
  case isFalse => cases hx
  simp only [Option.some.injEq] at hx
  subst hx
  obtain ⟨t1, t2, t3, _⟩ := backBx_tags hb
  have hsite : ∀ s, .inl s ∈ sitesOf (σ.see v v) args → v.has s = true := fun s hs => by
    obtain ⟨cs, h⟩ := argsOf_io_vis ho s hs
    exact see_some_box h
  refine ⟨fun y hy => ?_, fun y hy => ?_⟩
  · rcases List.mem_append.1 hy with hy | hy
    · exact hsite _ (t1 y hy)
    · rw [backR_bx d r y hy]
      exact hd
  · simp only [List.mem_append] at hy
    rcases hy with ((hy | hy) | hy) | hy
    · simp only [AS.spentL, List.mem_map] at hy
      obtain ⟨g, hg, rfl⟩ := hy
      obtain ⟨z, hz⟩ := gone_vis ho g hg
      exact see_some_tl hz
    · obtain ⟨h1, _⟩ := t2 y hy
      obtain ⟨z, hz⟩ := argsOf_mu_vis ho _ _ h1
      exact see_some_tl hz
    · exact hsite _ (t3 y hy).1
    · rw [backR_tls d r y hy]
      exact hd

/-- What an operation writes lies where it may look. -/
theorem stepS_writes {o : AO} (hf : o.fair = true) {x : Res} (h : stepS E (σ.see o.vb o.vl) (o.dst.getD 0) o.k x) :
    (∀ y ∈ x.bx, o.wb = true ∧ o.fb.has y.1 = true) ∧ ∀ y ∈ x.tls, o.wl = true ∧ o.fl.has y.1.site = true := by
  obtain ⟨dst, k, g, vb, vl⟩ := o
  simp only at h ⊢
  have one : ∀ {v : IV} {g : Tag} {z : Nat × RK}, g.site = dst.getD 0 → ∀ y ∈ ({ v := v, tls := [(g, z)] } : Res).tls, (Vis.only [dst.getD 0]).has y.1.site = true := by
    intro v g z hg y hy
    simp only [List.mem_singleton] at hy
    subst hy
    simp only
    rw [hg]
    exact only_self _
  cases k with
  | call f args =>
    simp only [AO.fair, Bool.and_eq_true] at hf
    obtain ⟨hs, hd⟩ := hf
    have hvv := vis_same hs
    subst hvv
    obtain ⟨os, r, outs, g1, g2, g3⟩ := h
    obtain ⟨h1, h2⟩ := callRes_writes g1 g3 hd
    exact ⟨fun y hy => ⟨rfl, h1 y hy⟩, fun y hy => ⟨rfl, h2 y hy⟩⟩
  | callv z args =>
    simp only [AO.fair, Bool.and_eq_true] at hf
    obtain ⟨hs, hd⟩ := hf
    have hvv := vis_same hs
    subst hvv
    obtain ⟨f, caps, os, r, g0, g1, g2, g3⟩ := h
    obtain ⟨h1, h2⟩ := callRes_writes (os := []) (args := []) rfl g3 hd
    exact ⟨fun y hy => ⟨rfl, h1 y hy⟩, fun y hy => ⟨rfl, h2 y hy⟩⟩
  | st y z sz s =>
    simp only [stepS, evK] at h
    split at h
    · split at h
      · split at h
        · rename_i cs hcs
          rw [Option.map_eq_some_iff] at h
          obtain ⟨cs', _, rfl⟩ := h
          refine ⟨fun y hy => ?_, fun y hy => by cases hy⟩
          simp only [List.mem_singleton] at hy
          subst hy
          exact ⟨rfl, see_some_box hcs⟩
        · cases h
      · cases h
    · cases h
  | stn y z sz s =>
    simp only [stepS, evK] at h
    split at h
    · split at h
      · rename_i hcd
        obtain ⟨rfl, _⟩ := hcd
        split at h
        · rename_i cs hcs
          rw [Option.map_eq_some_iff] at h
          obtain ⟨cs', _, rfl⟩ := h
          refine ⟨fun y hy => ?_, fun y hy => ⟨rfl, ?_⟩⟩
          · simp only [List.mem_singleton] at hy
            subst hy
            exact ⟨rfl, see_some_box hcs⟩
          · obtain ⟨⟨j, _, e⟩, _⟩ := nilCells_tags _ _ _ _ y hy
            simp only [AO.fl, e, Tag.site]
            exact only_self _
        · cases h
      · cases h
    · cases h
  | stm y z sz =>
    simp only [stepS, evK] at h
    split at h
    · split at h
      · rename_i hz _
        split at h
        · split at h
          · simp only [Option.some.injEq] at h
            subst h
            refine ⟨fun y hy => (by cases hy), fun y hy => ?_⟩
            simp only [List.mem_singleton] at hy
            subst hy
            exact ⟨rfl, see_some_tl hz⟩
          · cases h
        · cases h
      · cases h
    · cases h
  | app y z sz bytes =>
    simp only [AO.fair] at hf
    simp only [stepS, evK] at h
    split at h
    · cases h
    · split at h
      · split at h
        · split at h
          · rename_i hz
            split at h
            · simp only [Option.some.injEq] at h
              subst h
              refine ⟨fun y hy => (by cases hy), fun y hy => ?_⟩
              simp only [List.mem_singleton] at hy
              subst hy
              exact ⟨rfl, see_some_tl hz⟩
            · cases h
          · cases h
        · split at h
          · rename_i hz
            split at h
            · simp only [Option.some.injEq] at h
              subst h
              refine ⟨fun y hy => (by cases hy), fun y hy => ?_⟩
              simp only [List.mem_singleton] at hy
              subst hy
              exact ⟨rfl, see_some_tl hz⟩
            · cases h
          · cases h
        · split at h
          · simp only [Option.some.injEq] at h
            subst h
            refine ⟨fun y hy => (by cases hy), fun y hy => ?_⟩
            simp only [List.mem_singleton] at hy
            subst hy
            exact ⟨rfl, hf⟩
          · cases h
        · cases h
      · cases h
  | asgo y =>
    simp only [AO.fair] at hf
    simp only [stepS, evK] at h
    split at h
    · split at h
      · rename_i hz
        split at h
        · simp only [Option.some.injEq] at h
          subst h
          exact ⟨fun y hy => (by cases hy), fun y hy => (by cases hy)⟩
        · split at h
          · simp only [Option.some.injEq] at h
            subst h
            refine ⟨fun y hy => (by cases hy), fun y hy => ⟨rfl, ?_⟩⟩
            simp only [List.mem_cons, List.not_mem_nil, or_false] at hy
            rcases hy with rfl | rfl
            · exact see_some_tl hz
            · exact hf
          · cases h
      · cases h
    · simp only [Option.some.injEq] at h
      subst h
      refine ⟨fun y hy => (by cases hy), fun y hy => ⟨rfl, ?_⟩⟩
      simp only [List.mem_singleton] at hy
      subst hy
      exact hf
    · cases h
  | asg y =>
    simp only [stepS, evK] at h
    split at h
    · split at h
      · simp only [Option.some.injEq] at h
        subst h
        exact ⟨fun y hy => (by cases hy), fun y hy => ⟨rfl, one rfl y hy⟩⟩
      · cases h
    · simp only [Option.some.injEq] at h
      subst h
      exact ⟨fun y hy => (by cases hy), fun y hy => (by cases hy)⟩
  | asm y =>
    simp only [stepS, evK] at h
    split at h
    · split at h
      · simp only [Option.some.injEq] at h
        subst h
        exact ⟨fun y hy => (by cases hy), fun y hy => ⟨rfl, one rfl y hy⟩⟩
      · cases h
    · cases h
  | bs sz xs =>
    simp only [stepS, evK] at h
    split at h
    · split at h
      · simp only [Option.some.injEq] at h
        subst h
        exact ⟨fun y hy => (by cases hy), fun y hy => ⟨rfl, one rfl y hy⟩⟩
      · cases h
    · cases h
  | bm sz xs =>
    simp only [stepS, evK] at h
    split at h
    · split at h
      · simp only [Option.some.injEq] at h
        subst h
        exact ⟨fun y hy => (by cases hy), fun y hy => ⟨rfl, one rfl y hy⟩⟩
      · cases h
    · cases h
  | mk y sz bytes zero =>
    simp only [stepS, evK] at h
    split at h
    · split at h
      · simp only [Option.some.injEq] at h
        subst h
        exact ⟨fun y hy => (by cases hy), fun y hy => ⟨rfl, one rfl y hy⟩⟩
      · cases h
    · cases h
  | al zero =>
    simp only [stepS, evK] at h
    split at h
    · simp only [Option.some.injEq] at h
      subst h
      refine ⟨fun y hy => ?_, fun y hy => ⟨rfl, ?_⟩⟩
      · simp only [List.mem_singleton] at hy
        subst hy
        exact ⟨rfl, only_self _⟩
      · obtain ⟨j, _, e⟩ := tipCells_tags _ _ _ y hy
        simp only [AO.fl, e]
        exact only_self _
    · cases h
  | bx y sz =>
    simp only [stepS, evK] at h
    split at h
    · split at h
      · simp only [Option.some.injEq] at h
        subst h
        refine ⟨fun y hy => ?_, fun y hy => ⟨rfl, ?_⟩⟩
        · simp only [List.mem_singleton] at hy
          subst hy
          exact ⟨rfl, only_self _⟩
        · obtain ⟨j, _, e⟩ := tipCells_tags _ _ _ y hy
          simp only [AO.fl, e]
          exact only_self _
      · cases h
    · cases h
  | _ =>
    have hq : x.bx = [] ∧ x.tls = [] := by
      simp only [stepS, evK] at h
      repeat (first | (focus (cases h; done)) | (simp only [Option.some.injEq] at h; subst h; exact ⟨rfl, rfl⟩) | (rw [Option.map_eq_some_iff] at h; obtain ⟨_, _, rfl⟩ := h; exact ⟨rfl, rfl⟩) | split at h)
    exact ⟨fun y hy => (by rw [hq.1] at hy; cases hy), fun y hy => (by rw [hq.2] at hy; cases hy)⟩

/-- What an operation may come to, its guard told. -/
def OpS (o : AO) (σ : AS) (x : Res) : Prop :=
  match o.g with
  | none => stepS E (σ.see o.vb o.vl) (o.dst.getD 0) o.k x
  | some (t, want) => (∃ b, σ.tmp t = .p (.bool b) ∧ ((b = want ∧ stepS E (σ.see o.vb o.vl) (o.dst.getD 0) o.k x) ∨ (b ≠ want ∧ x = { v := .p (.tup []) }))) ∨ (σ.tmp t = .p (.tup []) ∧ x = { v := .p (.tup []) })

theorem awOp_iff {o : AO} {Q : AS → Prop} : awOp E o Q σ ↔ ∃ x, OpS E o σ x ∧ Q (σ.app o.dst x) := by
  unfold awOp OpS
  split
  · rename_i e
    rw [stepK_iff]
    simp only [e]
  · rename_i t want e
    simp only [e]
    split
    · rename_i b hb
      by_cases hbw : b = want
      · rw [if_pos hbw, stepK_iff]
        constructor
        · rintro ⟨x, h1, h2⟩
          exact ⟨x, .inl ⟨b, hb, .inl ⟨hbw, h1⟩⟩, h2⟩
        · rintro ⟨x, ⟨b', h1, h2⟩ | ⟨h1, _⟩, h3⟩
          · rw [hb] at h1
            cases h1
            rcases h2 with ⟨_, h2⟩ | ⟨h2, _⟩
            · exact ⟨x, h2, h3⟩
            · exact absurd hbw h2
          · rw [hb] at h1
            cases h1
      · rw [if_neg hbw]
        constructor
        · intro h
          exact ⟨_, .inl ⟨b, hb, .inr ⟨hbw, rfl⟩⟩, h⟩
        · rintro ⟨x, ⟨b', h1, h2⟩ | ⟨h1, _⟩, h3⟩
          · rw [hb] at h1
            cases h1
            rcases h2 with ⟨h2, _⟩ | ⟨_, rfl⟩
            · exact absurd h2 hbw
            · exact h3
          · rw [hb] at h1
            cases h1
    · rename_i hb
      constructor
      · intro h
        exact ⟨_, .inr ⟨hb, rfl⟩, h⟩
      · rintro ⟨x, ⟨b', h1, h2⟩ | ⟨_, rfl⟩, h3⟩
        · rw [hb] at h1
          cases h1
        · exact h3
    · rename_i hn hn2
      constructor
      · exact False.elim
      · rintro ⟨x, ⟨b', h1, h2⟩ | ⟨h1, _⟩, h3⟩
        · exact hn b' h1
        · exact hn2 h1

theorem OpS_local {o : AO} (hf : o.fair = true) {σ1 σ2 : AS} (ht : ∀ t ∈ o.reads, σ1.tmp t = σ2.tmp t) (hb : ∀ s, o.fb.has s = true → σ1.box s = σ2.box s) (hl : ∀ g : Tag, o.fl.has g.site = true → σ1.tl g = σ2.tl g) {x : Res} (h : OpS E o σ1 x) : OpS E o σ2 x := by
  unfold OpS at h ⊢
  split at h
  · exact stepS_local E hf ht hb hl h
  · rename_i t want e
    rcases h with ⟨b, h1, h2⟩ | ⟨h1, h2⟩
    · refine .inl ⟨b, by rw [← ht t (by simp [AO.reads, e])]; exact h1, ?_⟩
      rcases h2 with ⟨h2, h3⟩ | h2
      · exact .inl ⟨h2, stepS_local E hf ht hb hl h3⟩
      · exact .inr h2
    · exact .inr ⟨by rw [← ht t (by simp [AO.reads, e])]; exact h1, h2⟩
theorem OpS_writes {o : AO} (hf : o.fair = true) {x : Res} (h : OpS E o σ x) : (∀ y ∈ x.bx, o.wb = true ∧ o.fb.has y.1 = true) ∧ ∀ y ∈ x.tls, o.wl = true ∧ o.fl.has y.1.site = true := by
  unfold OpS at h
  split at h
  · exact stepS_writes E hf h
  · rcases h with ⟨b, h1, h2⟩ | ⟨_, rfl⟩
    · rcases h2 with ⟨h2, h3⟩ | ⟨_, rfl⟩
      · exact stepS_writes E hf h3
      · exact ⟨fun y hy => (by cases hy), fun y hy => (by cases hy)⟩
    · exact ⟨fun y hy => (by cases hy), fun y hy => (by cases hy)⟩

theorem app_box (σ : AS) (dst : Option Nat) (x : Res) : (σ.app dst x).box = (σ.setBs x.bx).box := by
  cases dst <;> simp only [AS.app, AS.setT, setLs_box]
theorem app_tl (σ : AS) (dst : Option Nat) (x : Res) : (σ.app dst x).tl = (σ.setLs x.tls).tl := by
  cases dst <;> simp only [AS.app, AS.setT, setLs_setBs, setBs_tl]
theorem app_tmp_none (σ : AS) (x : Res) : (σ.app none x).tmp = σ.tmp := by simp only [AS.app, setLs_tmp, setBs_tmp]
theorem app_tmp (σ : AS) (d : Nat) (x : Res) (t : Nat) : (σ.app (some d) x).tmp t = if t = d then x.v else σ.tmp t := by simp only [AS.app, AS.setT, setLs_tmp, setBs_tmp]

theorem setBs_box_congr : ∀ (b : List (Nat × List IV)) (σ σ' : AS) (s : Nat), σ.box s = σ'.box s → (σ.setBs b).box s = (σ'.setBs b).box s
  | [], σ, σ', s, h => h
  | (s', c) :: b, σ, σ', s, h => by
    simp only [AS.setBs]
    refine setBs_box_congr b _ _ s ?_
    simp only [AS.setB, h]
theorem setLs_tl_congr : ∀ (b : List (Tag × Nat × RK)) (σ σ' : AS) (s : Tag), σ.tl s = σ'.tl s → (σ.setLs b).tl s = (σ'.setLs b).tl s
  | [], σ, σ', s, h => h
  | (s', c) :: b, σ, σ', s, h => by
    simp only [AS.setLs]
    refine setLs_tl_congr b _ _ s ?_
    simp only [AS.setL, h]

theorem app_comm {x y : Res} {dx dy : Option Nat} (hd : ∀ d, dx = some d → dy ≠ some d) (hb : ∀ p ∈ x.bx, ∀ q ∈ y.bx, p.1 ≠ q.1) (hl : ∀ p ∈ x.tls, ∀ q ∈ y.tls, p.1 ≠ q.1) : (σ.app dx x).app dy y = (σ.app dy y).app dx x := by
  have ext : ∀ (σ σ' : AS), σ.tmp = σ'.tmp → σ.box = σ'.box → σ.tl = σ'.tl → σ = σ' := by
    intro σ σ' h1 h2 h3
    cases σ
    cases σ'
    simp_all
  refine ext _ _ ?_ ?_ ?_
  · funext t
    cases dx with
    | none => cases dy with
      | none => simp only [app_tmp_none]
      | some d => simp only [app_tmp, app_tmp_none]
    | some d => cases dy with
      | none => simp only [app_tmp, app_tmp_none]
      | some d' =>
        have hne : d ≠ d' := fun e => hd d rfl (e ▸ rfl)
        simp only [app_tmp]
        by_cases h1 : t = d
        · subst h1
          simp [hne]
        · simp [h1]
  · funext s
    rw [app_box, app_box]
    by_cases h1 : ∃ q ∈ y.bx, q.1 = s
    · obtain ⟨q, hq, rfl⟩ := h1
      rw [setBs_other x.bx _ _ (fun p hp => hb p hp q hq)]
      rw [app_box]
      refine setBs_box_congr y.bx _ _ _ ?_
      rw [app_box, setBs_other x.bx _ _ (fun p hp => hb p hp q hq)]
    · have h2 : ∀ q ∈ y.bx, q.1 ≠ s := fun q hq e => h1 ⟨q, hq, e⟩
      rw [setBs_other y.bx _ _ h2, app_box]
      refine setBs_box_congr x.bx _ _ _ ?_
      rw [app_box, setBs_other y.bx _ _ h2]
  · funext s
    rw [app_tl, app_tl]
    by_cases h1 : ∃ q ∈ y.tls, q.1 = s
    · obtain ⟨q, hq, rfl⟩ := h1
      rw [setLs_tl_other x.tls _ _ (fun p hp => hl p hp q hq)]
      rw [app_tl]
      refine setLs_tl_congr y.tls _ _ _ ?_
      rw [app_tl, setLs_tl_other x.tls _ _ (fun p hp => hl p hp q hq)]
    · have h2 : ∀ q ∈ y.tls, q.1 ≠ s := fun q hq e => h1 ⟨q, hq, e⟩
      rw [setLs_tl_other y.tls _ _ h2, app_tl]
      refine setLs_tl_congr x.tls _ _ _ ?_
      rw [app_tl, setLs_tl_other y.tls _ _ h2]

/-- THE CHANGE OF PLACES. -/
theorem awOp_comm {x y : AO} (h : x.indep y = true) {Q : AS → Prop} (hs : awOp E x (awOp E y Q) σ) : awOp E y (awOp E x Q) σ := by
  unfold AO.indep at h
  simp only [Bool.and_eq_true] at h
  obtain ⟨⟨⟨⟨⟨h1, h2⟩, hfx⟩, hfy⟩, h3⟩, h4⟩ := h
  have hxy : ∀ d, x.dst = some d → d ∉ y.reads ∧ y.dst ≠ some d := fun d hd => by
    rw [hd] at h1
    simpa using h1
  have hyx : ∀ d, y.dst = some d → d ∉ x.reads := fun d hd => by
    rw [hd] at h2
    simpa using h2
  have hB : (x.wb = true ∨ y.wb = true) → ∀ s, x.fb.has s = true → y.fb.has s = false := fun hw s hh => by
    have : x.fb.disj y.fb = true := by
      rcases hw with hw | hw <;> simpa [hw] using h3
    exact Vis.disj_spec this hh
  have hL : (x.wl = true ∨ y.wl = true) → ∀ s, x.fl.has s = true → y.fl.has s = false := fun hw s hh => by
    have : x.fl.disj y.fl = true := by
      rcases hw with hw | hw <;> simpa [hw] using h4
    exact Vis.disj_spec this hh
  rw [awOp_iff] at hs
  obtain ⟨rx, sx, hs⟩ := hs
  rw [awOp_iff] at hs
  obtain ⟨ry, sy, hs⟩ := hs
  obtain ⟨wx1, wx2⟩ := OpS_writes E hfx sx
  obtain ⟨wy1, wy2⟩ := OpS_writes E hfy sy
  have sy' : OpS E y σ ry := OpS_local E hfy (fun t ht => by
    cases hd : x.dst with
    | none => rw [app_tmp_none]
    | some d =>
      rw [app_tmp, if_neg]
      exact fun e => (hxy d hd).1 (e ▸ ht)) (fun s hs2 => by
    rw [app_box, setBs_other]
    intro p hp e
    obtain ⟨w1, w2⟩ := wx1 p hp
    have := hB (.inl w1) _ w2
    rw [e, hs2] at this
    cases this) (fun g hs2 => by
    rw [app_tl, setLs_tl_other]
    intro p hp e
    obtain ⟨w1, w2⟩ := wx2 p hp
    have := hL (.inl w1) _ w2
    rw [e, hs2] at this
    cases this) sy
  have sx' : OpS E x (σ.app y.dst ry) rx := OpS_local E hfx (fun t ht => by
    cases hd : y.dst with
    | none => rw [app_tmp_none]
    | some d =>
      rw [app_tmp, if_neg]
      exact fun e => hyx d hd (e ▸ ht)) (fun s hs2 => by
    rw [app_box, setBs_other]
    intro p hp e
    obtain ⟨w1, w2⟩ := wy1 p hp
    have := hB (.inr w1) s hs2
    rw [← e, w2] at this
    cases this) (fun g hs2 => by
    rw [app_tl, setLs_tl_other]
    intro p hp e
    obtain ⟨w1, w2⟩ := wy2 p hp
    have := hL (.inr w1) _ hs2
    rw [← e, w2] at this
    cases this) sx
  rw [awOp_iff]
  refine ⟨ry, sy', ?_⟩
  rw [awOp_iff]
  refine ⟨rx, sx', ?_⟩
  rw [← app_comm (fun d hd => (hxy d hd).2) (fun p hp q hq e => by
    obtain ⟨w1, w2⟩ := wx1 p hp
    obtain ⟨v1, v2⟩ := wy1 q hq
    have := hB (.inl w1) _ w2
    rw [e, v2] at this
    cases this) (fun p hp q hq e => by
    obtain ⟨w1, w2⟩ := wx2 p hp
    obtain ⟨v1, v2⟩ := wy2 q hq
    have := hL (.inl w1) _ w2
    rw [e, v2] at this
    cases this)]
  exact hs

theorem awOp_mono {x : AO} {Q Q' : AS → Prop} (h : awOp E x Q σ) (hq : ∀ σ, Q σ → Q' σ) : awOp E x Q' σ := by
  rw [awOp_iff] at h ⊢
  obtain ⟨r, h1, h2⟩ := h
  exact ⟨r, h1, hq _ h2⟩

/-- An operation is taken to the front. -/
theorem awOps_front {x : AO} {l2 : List AO} {Q : AS → Prop} : ∀ {l1 : List AO} {σ : AS}, (∀ y ∈ l1, y.indep x = true) → awOps E (l1 ++ x :: l2) Q σ → awOp E x (awOps E (l1 ++ l2) Q) σ
  | [], σ, _, h => h
  | y :: l1, σ, hi, h => by
    have h1 : awOp E y (awOps E (l1 ++ x :: l2) Q) σ := h
    have h2 : awOp E y (awOp E x (awOps E (l1 ++ l2) Q)) σ := awOp_mono E h1 fun σ' h' => awOps_front (fun z hz => hi z (by simp [hz])) h'
    exact awOp_comm E (hi y (by simp)) h2

end

end Go.Proofs.Ytfhgjhchjekbgaa
set_option linter.unusedVariables false
set_option linter.unusedSimpArgs false
namespace Go.Proofs.Ytfhgjhchjekbgaa
open Go

/-! ### Regions that run in any order -/

def maskOf (acc : Array Nat) (o : Oper) : Nat := o.after.toList.foldl (fun s e => if Region.binds .any e then s ||| 2 ^ e.on ||| acc.getD e.on 0 else s) 0
def pairOK (m : Nat) : Nat → List AO → AO → Bool
  | _, [], _ => true
  | j, y :: ys, x => (m.testBit j || y.indep x) && pairOK m (j + 1) ys x
def drawOK : List Oper → List AO → List AO → Array Nat → Bool
  | [], [], _, _ => true
  | o :: os, x :: xs, pre, acc => (o.after.toList.all fun e => !Region.binds .any e || decide (e.on < acc.size)) && pairOK (maskOf acc o) 0 pre x && drawOK os xs (pre ++ [x]) (acc.push (maskOf acc o))
  | _, _, _, _ => false

theorem mask_bit {acc : Array Nat} {o : Oper} {j : Nat} (h : (maskOf acc o).testBit j = true) : ∃ e ∈ o.after.toList, Region.binds .any e = true ∧ (j = e.on ∨ (acc.getD e.on 0).testBit j = true) := by
  have key : ∀ (l : List Edge) (s : Nat), (l.foldl (fun s e => if Region.binds .any e then s ||| 2 ^ e.on ||| acc.getD e.on 0 else s) s).testBit j = true → s.testBit j = true ∨ ∃ e ∈ l, Region.binds .any e = true ∧ (j = e.on ∨ (acc.getD e.on 0).testBit j = true) := by
    intro l
    induction l with
    | nil => intro s h; exact .inl h
    | cons e l ih =>
      intro s h
      rw [List.foldl_cons] at h
      rcases ih _ h with h1 | ⟨e', h1, h2⟩
      · split at h1
        · rename_i hb
          rw [Nat.testBit_or, Nat.testBit_or, Bool.or_eq_true, Bool.or_eq_true, Nat.testBit_two_pow] at h1
          rcases h1 with (h1 | h1) | h1
          · exact .inl h1
          · exact .inr ⟨e, by simp, hb, .inl (by have h5 : e.on = j := (by simpa using h1); exact h5.symm)⟩
          · exact .inr ⟨e, by simp, hb, .inr h1⟩
        · exact .inl h1
      · exact .inr ⟨e', by simp [h1], h2⟩
  rcases key _ _ h with h1 | h1
  · simp at h1
  · exact h1

/-- What has been listed is closed under what comes ahead. -/
def Closed (ops : List Oper) (L : Nat → Prop) : Prop := ∀ (k : Nat) (o : Oper), ops[k]? = some o → L k → ∀ e ∈ o.after.toList, Region.binds .any e = true → L e.on

theorem pairOK_spec {m : Nat} {x : AO} : ∀ {ys : List AO} {j : Nat}, pairOK m j ys x = true → ∀ (i : Nat) (y : AO), ys[i]? = some y → m.testBit (j + i) = true ∨ y.indep x = true
  | [], j, _, i, y, hy => by simp at hy
  | z :: ys, j, h, i, y, hy => by
    simp only [pairOK, Bool.and_eq_true, Bool.or_eq_true] at h
    cases i with
    | zero =>
      simp at hy
      subst hy
      exact h.1
    | succ i =>
      have := pairOK_spec h.2 i y (by simpa using hy)
      rwa [show j + 1 + i = j + (i + 1) by omega] at this

theorem drawOK_spec {ops : List Oper} : ∀ {os : List Oper} {xs pre : List AO} {acc : Array Nat}, drawOK os xs pre acc = true → pre.length = acc.size → ops.drop acc.size = os →
    (∀ k, k < acc.size → ∀ L, Closed ops L → (∀ o, ops[k]? = some o → ∀ e ∈ o.after.toList, Region.binds .any e = true → L e.on) → ∀ j, (acc.getD k 0).testBit j = true → L j) →
    ∀ (i : Nat) (o : Oper) (x : AO), ops[i]? = some o → acc.size ≤ i → (pre ++ xs)[i]? = some x → (∀ e ∈ o.after.toList, Region.binds .any e = true → e.on < i) ∧
      ∀ (j : Nat) (y : AO), j < i → (pre ++ xs)[j]? = some y → ∀ L, Closed ops L → (∀ e ∈ o.after.toList, Region.binds .any e = true → L e.on) → L j ∨ y.indep x = true
  | [], [], pre, acc, _, hl, hd, hacc, i, o, x, hi, hge, hx => by
    have : ops.length ≤ acc.size := by simpa using hd
    have := lt_of_getElem? hi
    omega
  | [], _ :: _, pre, acc, h, _, _, _, _, _, _, _, _, _ => by simp [drawOK] at h
  | _ :: _, [], pre, acc, h, _, _, _, _, _, _, _, _, _ => by simp [drawOK] at h
  | o' :: os, x' :: xs, pre, acc, h, hl, hd, hacc, i, o, x, hi, hge, hx => by
    simp only [drawOK, Bool.and_eq_true, List.all_eq_true] at h
    obtain ⟨⟨h1, h2⟩, h3⟩ := h
    have hat : ops[acc.size]? = some o' := by
      have := congrArg (·[0]?) hd
      simp only [List.getElem?_drop, Nat.add_zero, List.getElem?_cons_zero] at this
      exact this
    have hmask : ∀ L, Closed ops L → (∀ e ∈ o'.after.toList, Region.binds .any e = true → L e.on) → ∀ j, (maskOf acc o').testBit j = true → L j := by
      intro L hL he j hj
      obtain ⟨e, he1, he2, he3⟩ := mask_bit hj
      rcases he3 with rfl | he3
      · exact he e he1 he2
      · have hlt : e.on < acc.size := by
          have := h1 e he1
          simpa [he2] using this
        exact hacc e.on hlt L hL (fun o'' ho'' => hL e.on o'' ho'' (he e he1 he2)) j he3
    rcases Nat.eq_or_lt_of_le hge with e | hlt
    · subst e
      rw [hat] at hi
      simp only [Option.some.injEq] at hi
      subst hi
      rw [List.getElem?_append_right (by omega), hl, Nat.sub_self] at hx
      simp only [List.getElem?_cons_zero, Option.some.injEq] at hx
      subst hx
      refine ⟨fun e he hb => by have := h1 e he; simpa [hb] using this, fun j y hj hy L hL he => ?_⟩
      rw [List.getElem?_append_left (by omega)] at hy
      rcases pairOK_spec h2 j y hy with h4 | h4
      · rw [Nat.zero_add] at h4
        exact .inl (hmask L hL he j h4)
      · exact .inr h4
    · have hpre : pre ++ x' :: xs = (pre ++ [x']) ++ xs := by simp
      rw [hpre] at hx ⊢
      refine drawOK_spec (ops := ops) h3 (by simp [hl]) (by rw [Array.size_push, ← List.drop_drop, hd]; rfl) (fun k hk L hL he j hj => ?_) i o x hi (by rw [Array.size_push]; exact hlt) hx
      rw [Array.size_push] at hk
      rcases Nat.lt_or_ge k acc.size with h4 | h4
      · have e : (acc.push (maskOf acc o')).getD k 0 = acc.getD k 0 := by
          simp only [Array.getD_eq_getD_getElem?]
          rw [Array.getElem?_push_lt h4]
          simp [h4]
        rw [e] at hj
        exact hacc k h4 L hL he j hj
      · have e : k = acc.size := by omega
        subst e
        have e : (acc.push (maskOf acc o')).getD acc.size 0 = maskOf acc o' := by simp [Array.getD_eq_getD_getElem?]
        rw [e] at hj
        exact hmask L hL (he o' hat) j hj

section
variable {F : Fr} {G G' : Gh} {σ σh : AS} {a : Act} {w w' : World} {P : Program} {o : Oper} {d : Nat}

def x0 : AO := { dst := none, k := .mv (.nl 0) }
theorem opsOK_get {ops : Array Oper} {nt : Nat} : ∀ {l : List Oper} {xs : List AO}, opsOK P nt ops l xs = true → l.length = xs.length ∧ ∀ (i : Nat) (o : Oper), l[i]? = some o → ∃ x, xs[i]? = some x ∧ oOK P nt ops o x = true
  | [], [], _ => ⟨rfl, by simp⟩
  | [], _ :: _, h => by simp [opsOK] at h
  | _ :: _, [], h => by simp [opsOK] at h
  | o :: l, x :: xs, h => by
    simp only [opsOK, Bool.and_eq_true] at h
    obtain ⟨h1, h2⟩ := opsOK_get h.2
    refine ⟨by simp [h1], fun i o' hi => ?_⟩
    cases i with
    | zero =>
      simp at hi
      subst hi
      exact ⟨x, rfl, h.1⟩
    | succ i => simpa using h2 i o' (by simpa using hi)

theorem any_ok {ops : Array Oper} {xs : List AO} (hk : opsOK P F.nt ops ops.toList xs = true) (hd : drawOK ops.toList xs [] #[] = true) {Q : Exit → Act → World → Prop} {R : AS → Prop} (hQ : ∀ G' σ' a' w', R σ' → Rel F G' σ' a' w' → Q .normal a' w') :
    ∀ (fuel : Nat) (rem : List Nat) (listed : Array Bool) {G : Gh} {σ : AS} {a : Act} {w : World}, rem.length = fuel → rem.Pairwise (· < ·) → listed.size = ops.size → (∀ j, j ∈ rem ↔ listed.getD j true = false) →
      Closed ops.toList (fun j => listed.getD j false = true) → awOps (Ev P) (rem.map fun j => (xs[j]?).getD x0) R σ → Rel F G σ a w → wpAny P .any ops Q fuel listed a w := by
  obtain ⟨hlen, hget⟩ := opsOK_get hk
  have hspec := drawOK_spec (ops := ops.toList) hd rfl rfl (fun k hk => by simp at hk)
  have hrem_lt : ∀ {listed : Array Bool}, listed.size = ops.size → ∀ j, listed.getD j true = false → j < ops.size := by
    intro listed hs j hj
    rcases Nat.lt_or_ge j listed.size with h | h
    · omega
    · rw [Array.getD_eq_getD_getElem?, Array.getElem?_eq_none h] at hj
      simp at hj
  have hlisted : ∀ {listed : Array Bool} (j : Nat), j < listed.size → (listed.getD j true = false ↔ ¬ listed.getD j false = true) := by
    intro listed j hj
    simp [Array.getD_eq_getD_getElem?, hj]
  intro fuel
  induction fuel with
  | zero =>
    intro rem listed G σ a w hl hp hs hm hc hs2 h
    have e : rem = [] := List.eq_nil_of_length_eq_zero hl
    subst e
    refine ⟨?_, hQ G σ a w hs2 h⟩
    rw [List.eq_nil_iff_forall_not_mem]
    intro i hi
    rw [mem_ready] at hi
    have := (hm i).2 hi.1
    simp at this
  | succ fuel ih =>
    intro rem listed G σ a w hl hp hs hm hc hs2 h
    refine ⟨fun hemp => ?_, fun i hi => ?_⟩
    · exfalso
      cases rem with
      | nil => simp at hl
      | cons r0 rem =>
        have h0 := (hm r0).1 (by simp)
        have hlt := hrem_lt hs r0 h0
        have ho : ops[r0]? = some ops[r0] := by simp [hlt]
        obtain ⟨x, hx, _⟩ := hget r0 ops[r0] (by simp [hlt])
        have hedge := (hspec r0 ops[r0] x (by simp [hlt]) (Nat.zero_le _) (by simpa using hx)).1
        have : r0 ∈ Region.ready .any ops listed := by
          rw [mem_ready]
          refine ⟨h0, _, ho, fun e he hb => ?_⟩
          have hlt2 := hedge e (by simpa using he) hb
          have hnot : e.on ∉ r0 :: rem := fun hmem => by
            rcases List.mem_cons.1 hmem with e2 | hmem
            · omega
            · rw [List.pairwise_cons] at hp
              have := hp.1 e.on hmem
              omega
          rw [hm] at hnot
          rw [hlisted _ (by omega)] at hnot
          simpa using hnot
        rw [hemp] at this
        simp at this
    · rw [mem_ready] at hi
      obtain ⟨hi1, oi, hoi, hi2⟩ := hi
      have hmem := (hm i).2 hi1
      obtain ⟨l1, l2, rfl⟩ := List.append_of_mem hmem
      obtain ⟨x, hx, hxk⟩ := hget i oi (by simpa using hoi)
      have hsp := (hspec i oi x (by simpa using hoi) (Nat.zero_le _) (by simpa using hx)).2
      have hpw := hp
      rw [List.pairwise_append] at hp
      obtain ⟨p1, p2, p3⟩ := hp
      rw [List.map_append, List.map_cons, hx] at hs2
      simp only [Option.getD_some] at hs2
      have hfront := awOps_front (Ev P) (x := x) (l1 := l1.map fun j => (xs[j]?).getD x0) (fun y hy => by
        rw [List.mem_map] at hy
        obtain ⟨j, hj, rfl⟩ := hy
        have hji := p3 j hj i (by simp)
        have hj0 := (hm j).1 (by simp [hj])
        have hjlt := hrem_lt hs j hj0
        have hjx : xs[j]? = some (xs[j]'(by rw [← hlen]; simpa using hjlt)) := by simp
        rcases hsp j _ hji (by rw [List.nil_append]; exact hjx) (fun j => listed.getD j false = true) hc (fun e he hb => hi2 e (by simpa using he) hb) with h1 | h1
        · exfalso
          exact ((hlisted j (by omega)).1 hj0) h1
        · rw [hjx]
          exact h1) hs2
      refine op_ok h hoi hxk hfront fun G' σ' a' w' hs' h' => ?_
      have hmi : ∀ j, (listed.setIfInBounds i true).getD j true = false ↔ j ≠ i ∧ listed.getD j true = false := by
        intro j
        by_cases e : j = i
        · subst e
          have := hrem_lt hs j hi1
          simp [Array.getD_eq_getD_getElem?, Array.getElem?_setIfInBounds_self, hs, this]
        · rw [getD_set_ne _ (fun e2 => e e2.symm)]
          simp [e]
      rw [← List.map_append] at hs'
      refine ih (l1 ++ l2) (listed.setIfInBounds i true) (by simp at hl ⊢; omega) ?_ (by simpa using hs) (fun j => ?_) ?_ hs' h'
      · rw [List.pairwise_append]
        rw [List.pairwise_cons] at p2
        exact ⟨p1, p2.2, fun x hx y hy => p3 x hx y (by simp [hy])⟩
      · rw [hmi, ← hm]
        have hni : i ∉ l1 := fun hm1 => by have := p3 i hm1 i (by simp); omega
        have hni2 : i ∉ l2 := fun hm2 => by
          rw [List.pairwise_cons] at p2
          have := p2.1 i hm2
          omega
        simp only [List.mem_append, List.mem_cons]
        constructor
        · rintro (h1 | h1)
          · exact ⟨fun e => hni (e ▸ h1), .inl h1⟩
          · exact ⟨fun e => hni2 (e ▸ h1), .inr (.inr h1)⟩
        · rintro ⟨h1, h2 | h2 | h2⟩
          · exact .inl h2
          · exact absurd h2 h1
          · exact .inr h2
      · intro k ok hok hk2 e he hb
        by_cases e1 : k = i
        · subst e1
          rw [Array.getElem?_toList, hoi] at hok
          simp only [Option.some.injEq] at hok
          subst hok
          exact getD_set_true (hi2 e (by simpa using he) hb)
        · rw [getD_set_ne _ (fun e2 => e1 e2.symm)] at hk2
          exact getD_set_true (hc k ok hok hk2 e he hb)

end

end Go.Proofs.Ytfhgjhchjekbgaa
