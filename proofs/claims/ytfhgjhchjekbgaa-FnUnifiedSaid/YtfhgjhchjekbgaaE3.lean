/-
  Whole bodies: what the abstract code comes to, the code does.
-/
import Derived.Test.YtfhgjhchjekbgaaE2
set_option linter.unusedVariables false
set_option linter.unusedSimpArgs false
namespace Go.Proofs.Ytfhgjhchjekbgaa
open Go

def xOf : AX → Exit
  | .normal => .normal
  | .exit id => .exit id
  | .ret => .ret

/-- Is this the abstract form of that code? -/
def chkC (P : Program) (nt np : Nat) : Code → AC → Bool
  | .skip, .skip => true
  | _, .bad => true
  | .region _ ops draw, .reg dr xs => decide (draw = dr) && opsOK P nt ops ops.toList xs && (newsOf xs).all (fun d => decide (np ≤ d)) && (!draw || (drawOK ops.toList xs [] #[] && P.follows .mixedOrders))
  | .seq a b, .seq x y => chkC P nt np a x && chkC P nt np b y
  | .cond o a b, .cond c x y => opdOK o c && chkC P nt np a x && chkC P nt np b y
  | .block id a, .block id' x => decide (id = id') && chkC P nt np a x
  | .loop a, .loop x => chkC P nt np a x
  | c, .wk x => chkC P nt np c x
  | .exit id, .exit id' => decide (id = id')
  | .ret, .ret => true
  | _, _ => false

section
variable {P : Program}

/-- A loop whose rounds are counted down by a number that is not told. -/
theorem wp_loopN {Q : Exit → Act → World → Prop} {c : Code} (I : Nat → Act → World → Prop) {n : Nat} {a : Act} {w : World} (h₀ : I n a w)
    (round : ∀ n a w, I n a w → c.wp P (Exit.then (fun a' w' => ∃ m, m < n ∧ I m a' w') Q) a w) : (Code.loop c).wp P Q a w := by
  intro b k cs
  have key : ∀ n a w, I n a w → ∃ e a' w', Q e a' w' ∧ Arrives P (lone (b.at a (.code c :: .inLoop c :: k)) cs w) b k cs e a' w' := by
    intro n
    induction n using Nat.strongRecOn with
    | _ n ih =>
      intro a w hI
      obtain ⟨e, a₁, w₁, hq, harr⟩ := round n a w hI b (.inLoop c :: k) cs
      cases e with
      | normal =>
        obtain ⟨m, hlt, hI₁⟩ := hq
        obtain ⟨e₂, a₂, w₂, hq₂, harr₂⟩ := ih m hlt a₁ w₁ hI₁
        exact ⟨e₂, a₂, w₂, hq₂, .of_steps (Steps.trans harr (.one step_inLoop)) harr₂⟩
      | exit id => exact ⟨_, a₁, w₁, hq, .pass (x := .inLoop c) rfl (fun _ _ => .inl (by simp)) harr⟩
      | goto l => exact ⟨_, a₁, w₁, hq, .pass (x := .inLoop c) rfl (fun _ _ => .inl (by simp)) harr⟩
      | ret => exact ⟨_, a₁, w₁, hq, .pass (x := .inLoop c) rfl (fun _ _ => .inl (by simp)) harr⟩
      | panic ch => exact ⟨_, a₁, w₁, hq, .pass (x := .inLoop c) rfl (fun _ _ => .inl (by simp)) harr⟩
      | outgrown => exact ⟨_, a₁, w₁, hq, .pass (x := .inLoop c) rfl (fun _ _ => .inl (by simp)) harr⟩
  obtain ⟨e, a', w', hq, harr⟩ := key n a w h₀
  exact ⟨e, a', w', hq, .of_steps (.one step_loop) harr⟩

theorem IRel.weaken {G : Gh} {σ σ' : AS} {w : World} (ht : ∀ g x, σ'.tl g = some x → σ.tl g = some x) {v : Value} {x : IV} (h : IRel G σ.box σ.tl w v x) : σ'.ref x = true → IRel G σ'.box σ'.tl w v x := by
  have refsL_get : ∀ (cs : List IV), IV.refsL (fun s => (σ'.box s).isSome) (fun g => (σ'.tl g).isSome) cs = true → ∀ (i : Nat) (c : IV), cs[i]? = some c → σ'.ref c = true := by
    intro cs
    induction cs with
    | nil => intro _ i c hi; simp at hi
    | cons y ys ih =>
      intro hr i c hi
      simp only [IV.refsL, Bool.and_eq_true] at hr
      cases i with
      | zero =>
        simp at hi
        subst hi
        exact hr.1
      | succ i => exact ih hr.2 i c (by simpa using hi)
  have tag : ∀ {g : Tag} {n : Nat} {k : RK}, (σ'.tl g).isSome = true → σ.tl g = some (n, k) → σ'.tl g = some (n, k) := by
    intro g n k hs hg
    rw [Option.isSome_iff_exists] at hs
    obtain ⟨x, hx⟩ := hs
    have := ht g x hx
    rw [hg] at this
    cases this
    exact hx
  induction h with
  | p h => exact fun _ => .p h
  | undef v => exact fun _ => .undef v
  | nil sz => exact fun _ => .nil sz
  | tip g r xs n k h h2 hr hv => exact fun hs => .tip g r xs n k h (tag hs h2) hr hv
  | mo g r n k h0 h2 hr hv => exact fun hs => .mo g r n k h0 (tag hs h2) hr hv
  | mp g r off n k h0 h2 hr hv => exact fun hs => .mp g r off n k h0 (tag hs h2) hr hv
  | ptr s off cs h =>
    intro hs
    simp only [AS.ref, IV.refs] at hs
    rw [Option.isSome_iff_exists] at hs
    obtain ⟨cs', hc⟩ := hs
    exact .ptr s off cs' hc
  | agg vs cs f hl hc h1 hr ih => exact fun hs => .agg vs cs f hl hc h1 fun i c hi => ih i c hi (refsL_get cs hs i c hi)
  | tup vs cs f hl hc hr ih => exact fun hs => .tup vs cs f hl hc fun i c hi => ih i c hi (refsL_get cs hs i c hi)
  | clo g vs cs f hl hc hr ih => exact fun hs => .clo g vs cs f hl hc fun i c hi => ih i c hi (refsL_get cs hs i c hi)

theorem IRel.le {G : Gh} {σ : AS} {w : World} {v : Value} {x y : IV} (h : IRel G σ.box σ.tl w v x) (hl : x.Le y) : IRel G σ.box σ.tl w v y := by
  rcases hl with rfl | ⟨z, h1, rfl⟩
  · exact h
  · exact .p (fz_rel h h1)
theorem leL_get : ∀ {xs ys : List IV}, IV.LeL xs ys → xs.length = ys.length ∧ ∀ (i : Nat) (y : IV), ys[i]? = some y → ∃ x, xs[i]? = some x ∧ x.Le y
  | [], [], _ => ⟨rfl, fun i y hi => by simp at hi⟩
  | [], _ :: _, h => h.elim
  | _ :: _, [], h => h.elim
  | x :: xs, y :: ys, h => by
    obtain ⟨h1, h2⟩ := leL_get h.2
    refine ⟨by simp [h1], fun i z hi => ?_⟩
    cases i with
    | zero =>
      simp at hi
      subst hi
      exact ⟨x, rfl, h.1⟩
    | succ i => exact h2 i z (by simpa using hi)
/-- Less may be said. -/
theorem Rel.weaken {F : Fr} {G : Gh} {σ σ' : AS} {a : Act} {w : World} (h : Rel F G σ a w) (hw : Wk F.np σ σ') : Rel F G σ' a w := by
  have hblk : ∀ x b, G.blk σ' x = some b → G.blk σ x = some b := by
    intro x b hx
    cases x with
    | inl s =>
      obtain ⟨cs, h1, h2⟩ := blk_inl hx
      obtain ⟨cs0, h3, _⟩ := hw.box s cs h1
      exact h2 ▸ blk_inl_mk (G := G) (σ := σ) h3
    | inr g =>
      obtain ⟨n, k', h1, h2, h3⟩ := blk_inr hx
      exact blk_inr_mk (hw.tl _ _ h1) h2 h3
  refine ⟨h.defers, h.tsize, fun t => ?_, fun s cs hs => ?_, fun g n k hg => h.rows g n k (hw.tl _ _ hg), fun x y b hx hy => h.disj x y b (hblk x b hx) (hblk y b hy), fun s cs hs => (by obtain ⟨cs0, h3, _⟩ := hw.box s cs hs; exact h.boxK s cs0 h3), fun x b hx => h.mine x b (hblk x b hx), h.kok, h.kold, h.ext, h.keep, fun s b hs => ?_, fun g V hg => ?_, h.pin2⟩
  · rcases hw.tmp t with e | ⟨e, hr⟩
    · rw [e]
      exact .undef _
    · exact ((h.tmps t).le e).weaken hw.tl hr
  · obtain ⟨cs0, h1, h0, h2⟩ := hw.box s cs hs
    obtain ⟨q1, q2⟩ := leL_get h0
    obtain ⟨vs, e, hg, hl, hc⟩ := h.boxes s cs0 h1
    refine ⟨vs, e, hg, by omega, fun i c hi => ?_⟩
    obtain ⟨c0, hi0, hle⟩ := q2 i c hi
    obtain ⟨v, h3, h4, h5⟩ := hc i c0 hi0
    exact ⟨v, h3, h4, (h5.le hle).weaken hw.tl (h2 c (List.mem_of_getElem? hi))⟩
  · obtain ⟨h1, ⟨cs, h2⟩, h3⟩ := h.pinb s b hs
    have := hw.pinb s h1 (by rw [h2]; rfl)
    rw [Option.isSome_iff_exists] at this
    exact ⟨h1, this, h3⟩
  · obtain ⟨h1, n, k, h2, h3⟩ := h.pinv g V hg
    exact ⟨h1, n, k, by rw [h.pin2 g V hg, hw.pinv _ (h.pin2 g V hg ▸ h1), ← h.pin2 g V hg]; exact h2, h3⟩

/-- Q, said of what memory holds. -/
def Sat (F : Fr) (Q : AX → AS → Prop) (e : Exit) (a : Act) (w : World) : Prop := ∃ x G σ, xOf x = e ∧ Rel F G σ a w ∧ Q x σ

theorem code_ok {F : Fr} : ∀ (ac : AC) (c : Code), chkC P F.nt F.np c ac = true → ∀ {G : Gh} {σ : AS} {a : Act} {w : World} {Q : AX → AS → Prop}, Rel F G σ a w → aw (Ev P) F.np ac Q σ → c.wp P (Sat F Q) a w
  | .skip, c, hc, G, σ, a, w, Q, h, hs => by
    cases c <;> simp [chkC] at hc
    exact wp_skip ⟨.normal, G, σ, rfl, h, hs⟩
  | .bad, c, hc, G, σ, a, w, Q, h, hs => hs.elim
  | .reg dr xs, c, hc, G, σ, a, w, Q, h, hs => by
    cases c with
    | region id ops draw =>
      simp only [chkC, Bool.and_eq_true, decide_eq_true_eq, Bool.or_eq_true, Bool.not_eq_true'] at hc
      obtain ⟨⟨⟨rfl, h1⟩, h2⟩, h3⟩ := hc
      have hkill := h.kill (newsOf xs) (fun s hs => by
        rw [List.all_eq_true] at h2
        simpa using h2 s hs)
      simp only [aw] at hs
      have hQ : ∀ G' σ' a' w', Q .normal σ' → Rel F G' σ' a' w' → Sat F Q .normal a' w' := fun G' σ' a' w' hq hr => ⟨.normal, G', σ', rfl, hr, hq⟩
      cases draw with
      | false =>
        refine wp_region ?_
        have := ops_ok (ops := ops) hQ ops.toList xs 0 rfl h1 hs hkill
        rw [List.range_eq_range']
        simpa using this
      | true =>
        obtain ⟨h3, h4⟩ := h3.resolve_left (by simp)
        refine wp_region_any h4 ?_
        obtain ⟨hlen, _⟩ := opsOK_get h1
        refine any_ok h1 h3 hQ ops.size (List.range ops.size) (Array.replicate ops.size false) (by simp) List.pairwise_lt_range (by simp) (fun j => ?_) (fun k o _ hk => ?_) ?_ hkill.drew
        · rw [List.mem_range, Array.getD_eq_getD_getElem?, Array.getElem?_replicate]
          by_cases hj : j < ops.size <;> simp [hj]
        · exfalso
          simp only [Array.getD_eq_getD_getElem?, Array.getElem?_replicate] at hk
          by_cases hj : k < ops.size <;> simp [hj] at hk
        · have e : (List.range ops.size).map (fun j => (xs[j]?).getD x0) = xs := by
            apply List.ext_getElem?
            intro i
            have hl2 : xs.length = ops.size := by rw [← hlen]; rfl
            by_cases hi : i < ops.size
            · simp [List.getElem?_map, List.getElem?_range hi, List.getElem?_eq_getElem (show i < xs.length by omega)]
            · rw [List.getElem?_eq_none (by simp; omega), List.getElem?_eq_none (by omega)]
          rw [e]
          exact hs
    | _ => simp [chkC] at hc
  | .seq x y, c, hc, G, σ, a, w, Q, h, hs => by
    cases c with
    | seq c1 c2 =>
      simp only [chkC, Bool.and_eq_true] at hc
      simp only [aw] at hs
      refine wp_seq (wp_mono (code_ok x c1 hc.1 h hs) fun e a' w' hsat => ?_)
      obtain ⟨z, G', σ', rfl, h1, h2⟩ := hsat
      cases z with
      | normal => exact code_ok y c2 hc.2 h1 h2
      | exit id => exact ⟨.exit id, G', σ', rfl, h1, h2⟩
      | ret => exact ⟨.ret, G', σ', rfl, h1, h2⟩
    | _ => simp [chkC] at hc
  | .cond t x y, c, hc, G, σ, a, w, Q, h, hs => by
    cases c with
    | cond o c1 c2 =>
      simp only [chkC, Bool.and_eq_true] at hc
      obtain ⟨⟨h1, h2⟩, h3⟩ := hc
      simp only [aw] at hs
      split at hs
      · rename_i b hb
        have hv := opd_rel h h1
        rw [hb] at hv
        refine wp_cond hv.inv_p.inv_bool ?_
        cases b
        · exact code_ok y c2 h3 h hs
        · exact code_ok x c1 h2 h hs
      · exact hs.elim
    | _ => simp [chkC] at hc
  | .block id x, c, hc, G, σ, a, w, Q, h, hs => by
    cases c with
    | block id' c1 =>
      simp only [chkC, Bool.and_eq_true, decide_eq_true_eq] at hc
      obtain ⟨rfl, h1⟩ := hc
      simp only [aw] at hs
      refine wp_block (wp_mono (code_ok x c1 h1 h hs) fun e a' w' hsat => ?_)
      obtain ⟨z, G', σ', rfl, h1, h2⟩ := hsat
      cases z with
      | normal => exact ⟨.normal, G', σ', rfl, h1, h2⟩
      | exit i =>
        simp only [xOf, Exit.inBlock]
        simp only at h2
        split
        · rename_i e
          rw [if_pos e] at h2
          exact ⟨.normal, G', σ', rfl, h1, h2⟩
        · rename_i e
          rw [if_neg e] at h2
          exact ⟨.exit i, G', σ', rfl, h1, h2⟩
      | ret => exact ⟨.ret, G', σ', rfl, h1, h2⟩
    | _ => simp [chkC] at hc
  | .loop x, c, hc, G, σ, a, w, Q, h, hs => by
    cases c with
    | loop c1 =>
      simp only [chkC] at hc
      simp only [aw] at hs
      obtain ⟨ι, S, μ, i, hI, hstep⟩ := hs
      refine wp_loopN (fun n a w => ∃ G i, Rel F G (S i) a w ∧ μ i = n) ⟨G, i, h.weaken hI, rfl⟩ fun n a' w' hn => ?_
      obtain ⟨G1, i1, g1, rfl⟩ := hn
      refine wp_mono (code_ok x c1 hc g1 (hstep i1)) fun e a2 w2 hsat => ?_
      obtain ⟨z, G', σ', rfl, h1, h2⟩ := hsat
      cases z with
      | normal =>
        obtain ⟨j, h3, h4⟩ := h2
        exact ⟨μ j, h3, G', j, h1.weaken h4, rfl⟩
      | exit i => exact ⟨.exit i, G', σ', rfl, h1, h2⟩
      | ret => exact ⟨.ret, G', σ', rfl, h1, h2⟩
    | _ => simp [chkC] at hc
  | .wk x, c, hc, G, σ, a, w, Q, h, hs => by
    have hc' : chkC P F.nt F.np c x = true := by
      cases c <;> simpa [chkC] using hc
    obtain ⟨σ', h1, h2⟩ := hs
    exact code_ok x c hc' (h.weaken h1) h2
  | .exit id, c, hc, G, σ, a, w, Q, h, hs => by
    cases c with
    | exit id' =>
      simp only [chkC, decide_eq_true_eq] at hc
      subst hc
      exact wp_exit ⟨.exit id', G, σ, rfl, h, hs⟩
    | _ => simp [chkC] at hc
  | .ret, c, hc, G, σ, a, w, Q, h, hs => by
    cases c with
    | ret => exact wp_ret ⟨.ret, G, σ, rfl, h, hs⟩
    | _ => simp [chkC] at hc

end

end Go.Proofs.Ytfhgjhchjekbgaa
set_option linter.unusedVariables false
set_option linter.unusedSimpArgs false
namespace Go.Proofs.Ytfhgjhchjekbgaa
open Go

/-- Where a result lies. -/
inductive RW where
  | tmp (t : Nat)
  | cell (t sz : Nat) (ag : Bool)
  | lit (x : IV)
def rwVal (σ : AS) : RW → Option IV
  | .tmp t => some (σ.tmp t)
  | .cell t sz ag => match σ.tmp t with
    | .ptr s 0 => (match σ.box s with
      | some cs => if sz ≤ cs.length then oneOrAgg ag (cs.take sz) else none
      | none => none)
    | _ => none
  | .lit x => some x
def endOf (σ : AS) : List (RW × Mode) → Option (List OV × List (Nat ⊕ Tag))
  | [] => some ([], [])
  | (y, m) :: r => match rwVal σ y with
    | some x => (match argOf σ x m, endOf σ r with
      | some o, some z => some (o :: z.1, argKeys σ m x ++ z.2)
      | _, _ => none)
    | none => none
def mkRV : List OV → RV
  | [o] => .one o
  | os => .tup os
/-- What comes back in place, of the parameters. -/
def outsOf : Nat → List OV → List Mode → List (RW × Mode)
  | i, .ptr _ :: os, m :: ms => (.lit (.ptr i 0), m) :: outsOf (i + 1) os ms
  | i, .l (.mu _ _) :: os, m :: ms => (.lit (.mo (0, i, 0) 0), m) :: outsOf (i + 1) os ms
  | i, _ :: os, _ :: ms => outsOf (i + 1) os ms
  | _, _, _ => []
/-- What a body leaves. -/
def endB (σ : AS) (rs outs : List (RW × Mode)) : Option (RV × List OV) :=
  match endOf σ rs, endOf σ outs with
  | some x, some y => if (x.2 ++ y.2).Nodup then some (mkRV x.1, y.1) else none
  | _, _ => none

def AS.empty : AS := { tmp := fun _ => .undef, box := fun _ => none, tl := fun _ => none }
/-- The state in which a body begins. -/
def argsS : Nat → List OV → AS → AS
  | _, [], σ => σ
  | i, o :: os, σ => argsS (i + 1) os (σ.app (some i) (backO i 0 o))

def resOK (P : Program) : List ResultVar → List (RW × Mode) → Bool
  | [], [] => true
  | .tmp t :: rs, (.tmp t', m) :: xs => decide (t = t') && (match m with | .cz => false | _ => true) && resOK P rs xs
  | .cell t ty :: rs, (.cell t' sz ag, m) :: xs => decide (t = t') && szOK P ty sz && decide (isAggB P ty = some ag) && (match m with | .cz => false | _ => true) && resOK P rs xs
  | _, _ => false
def modesOK : List OV → List Mode → Bool
  | [], _ => true
  | .ptr _ :: os, .io _ :: ms => modesOK os ms
  | .l (.mu _ _) :: os, .mu :: ms => modesOK os ms
  | .ptr _ :: _, _ => false
  | .l (.mu _ _) :: _, _ => false
  | _ :: os, _ :: ms => modesOK os ms
  | _ :: _, [] => false

section
variable {F : Fr} {G G' : Gh} {σ σh : AS} {a : Act} {w w' : World} {P : Program} {o : Oper} {d : Nat}

theorem backC_nodup (rev : Tag → Nat) (k d : Nat) : ∀ (cs : List OL) (i : Nat), ((backC rev k d i cs).2.map (·.1)).Nodup
  | [], i => by simp [backC]
  | x :: xs, i => by
    simp only [backC, List.map_append]
    rw [List.nodup_append]
    refine ⟨by cases x <;> simp [backL], backC_nodup rev k d xs (i + 1), fun y hy z hz e => ?_⟩
    rw [List.mem_map] at hy hz
    obtain ⟨y', hy, rfl⟩ := hy
    obtain ⟨z', hz, rfl⟩ := hz
    rw [backL_tags _ _ _ y' hy] at e
    obtain ⟨j, hj, e2⟩ := backC_tags rev k d xs (i + 1) z' hz
    rw [e2] at e
    simp at e
    omega
theorem backO_nodup (d n : Nat) (o : OV) : ((backO d n o).bx.map (·.1)).Nodup ∧ ((backO d n o).tls.map (·.1)).Nodup := by
  cases o with
  | l x => cases x <;> simp [backO, backL]
  | agg cs => exact ⟨by simp [backO], backC_nodup _ _ _ _ _⟩
  | ptr cs => exact ⟨by simp [backO], backC_nodup _ _ _ _ _⟩

/-- What is handed over in place is known by its place. -/
def Pinned (F : Fr) (i : Nat) (vs : List Value) (os : List OV) : Prop :=
  ∀ (j : Nat) (o : OV) (v : Value), os[j]? = some o → vs[j]? = some v → (∀ cs, o = .ptr cs → ∃ b, v = .pointer (some ⟨b, 0, none⟩) ∧ (i + j, b) ∈ F.pb) ∧ (∀ sz xs, o = .l (.mu sz xs) → ((0, i + j, 0), v) ∈ F.pv)

theorem Rel.pins (h : Rel F G σ a w) {pb : List (Nat × Nat)} {pv : List (Tag × Value)} (hb : ∀ s b, (s, b) ∈ pb → s < F.np ∧ (∃ cs, σ.box s = some cs) ∧ G.ρ s = b)
    (hv : ∀ g V, (g, V) ∈ pv → g = (0, g.site, 0) ∧ g.site < F.np ∧ ∃ n k, σ.tl g = some (n, k) ∧ ∀ sz es, n = 0 → k = .mo sz es → G.V g = V) : Rel { F with pb := pb ++ F.pb, pv := pv ++ F.pv } G σ a w :=
  ⟨h.defers, h.tsize, h.tmps, h.boxes, h.rows, h.disj, h.boxK, h.mine, h.kok, h.kold, h.ext, h.keep, fun s b hs => by
    rcases List.mem_append.1 hs with hs | hs
    · exact hb s b hs
    · exact h.pinb s b hs, fun g V hg => by
    rcases List.mem_append.1 hg with hg | hg
    · exact (hv g V hg).2
    · exact h.pinv g V hg, fun g V hg => by
    rcases List.mem_append.1 hg with hg | hg
    · exact (hv g V hg).1
    · exact h.pin2 g V hg⟩

theorem enter_ok : ∀ {os : List OV} {vs : List Value} {bs : List Nat} (i : Nat) {F : Fr} {G : Gh} {σ : AS}, RepOs G.K w vs os bs → Rel F G σ a w → (∀ (j : Nat) (v : Value), vs[j]? = some v → a.tmps[i + j]? = some v) → bs.Nodup → Free F G σ bs →
    (∀ s, i ≤ s → σ.box s = none) → (∀ g : Tag, i ≤ g.site → σ.tl g = none) → i + os.length ≤ F.np →
    ∃ F' G', Rel F' G' (argsS i os σ) a w ∧ F'.nt = F.nt ∧ F'.W0 = F.W0 ∧ F'.T = F.T ∧ F'.K0 = F.K0 ∧ F'.np = F.np ∧ (∀ x ∈ F.pb, x ∈ F'.pb) ∧ (∀ x ∈ F.pv, x ∈ F'.pv) ∧ Pinned F' i vs os := by
  intro os vs bs i F G σ hr
  obtain ⟨K, hK⟩ : ∃ K, K = G.K := ⟨_, rfl⟩
  rw [← hK] at hr
  induction hr generalizing i F G σ with
  | nil =>
    intro h _ _ _ _ _ _
    exact ⟨F, G, h, rfl, rfl, rfl, rfl, rfl, fun _ h => h, fun _ h => h, fun j o v hj => by simp at hj⟩
  | cons ho hr ih =>
    rename_i v x b1 vs xs b2
    intro h htm hn hf hb0 ht0 hnp
    subst hK
    rw [List.nodup_append] at hn
    obtain ⟨hn1, hn2, hn3⟩ := hn
    obtain ⟨nd1, nd2⟩ := backO_nodup i 0 x
    obtain ⟨G1, g1, g2, g4, g5, g6⟩ := attachO i 0 ho h hn1 (fun b hb => hf b (List.mem_append_left _ hb)) ⟨fun y hy => hb0 _ (by rw [backO_bx i 0 x y hy]; exact Nat.le_refl _), nd1, fun y hy => ht0 _ (by rw [backO_tls i 0 x y hy]; exact Nat.le_refl _), nd2⟩
    have hat : a.tmps[i]? = some v := htm 0 v rfl
    have hilt : i < a.tmps.size := (Array.getElem?_eq_some_iff.1 hat).1
    have hput : a.put (some i) v = a := by
      simp only [Act.put]
      have : a.tmps.setIfInBounds i v = a.tmps := by
        apply Array.ext_getElem?
        intro j
        by_cases e : i = j
        · subst e
          rw [Array.getElem?_setIfInBounds_self]
          rw [hat]
          simp [hilt]
        · rw [Array.getElem?_setIfInBounds_ne e]
      rw [this]
    have h2 : Rel F G1 (σ.app (some i) (backO i 0 x)) a w := by
      have := Rel.app (dst := some i) g1 (by simp only [dOK, decide_eq_true_eq]; rw [← h.tsize]; exact hilt) g6
      rwa [hput] at this
    simp only [List.length_cons] at hnp
    have hbx : ∀ s, (σ.app (some i) (backO i 0 x)).box s = (σ.setBs (backO i 0 x).bx).box s := fun s => by rw [app_box]
    -- what is handed over in place is pinned
    have hpin : ∃ (pb : List (Nat × Nat)) (pv : List (Tag × Value)), Rel { F with pb := pb ++ F.pb, pv := pv ++ F.pv } G1 (σ.app (some i) (backO i 0 x)) a w ∧
        (∀ cs, x = .ptr cs → ∃ b, v = .pointer (some ⟨b, 0, none⟩) ∧ (i, b) ∈ pb) ∧ (∀ sz ys, x = .l (.mu sz ys) → ((0, i, 0), v) ∈ pv) := by
      cases x with
      | agg cs => exact ⟨[], [], h2.pins (by simp) (by simp), by simp, by simp⟩
      | ptr cs =>
        have e1 : v = .pointer (some ⟨G1.ρ i, 0, none⟩) := (g6.inv_ptr).1
        refine ⟨[(i, G1.ρ i)], [], h2.pins (fun s b hs => ?_) (by simp), fun _ _ => ⟨_, e1, by simp⟩, by simp⟩
        simp only [List.mem_singleton, Prod.mk.injEq] at hs
        obtain ⟨rfl, rfl⟩ := hs
        refine ⟨by omega, ?_, rfl⟩
        obtain ⟨_, cs', h3⟩ := g6.inv_ptr
        exact ⟨cs', by rw [hbx]; rw [setLs_box] at h3; exact h3⟩
      | l y =>
        cases y with
        | fz y => exact ⟨[], [], h2.pins (by simp) (by simp), by simp, by simp⟩
        | ow y z => exact ⟨[], [], h2.pins (by simp) (by simp), by simp, by simp⟩
        | mu sz ys =>
          refine ⟨[], [((0, i, 0), v)], h2.pins (by simp) (fun g V hg => ?_), by simp, fun _ _ _ => by simp⟩
          simp only [List.mem_singleton, Prod.mk.injEq] at hg
          obtain ⟨rfl, rfl⟩ := hg
          have htl : (σ.app (some i) (backO i 0 (.l (.mu sz ys)))).tl (0, i, 0) = some (0, .mo sz ys) := by
            rw [app_tl]
            simp [backO, backL, AS.setLs, AS.setL]
          refine ⟨rfl, by simp only [Tag.site]; omega, 0, .mo sz ys, htl, fun _ _ _ _ => ?_⟩
          have := g6.inv_mo (sz := sz) (es := ys) (by rw [← htl, app_tl, setLs_setBs, setBs_tl])
          exact this.symm
    obtain ⟨pb, pv, h3, hp1, hp2⟩ := hpin
    obtain ⟨F', G', i1, i2, i3, i4, i5, i6, i7, i8, i9⟩ := ih (i + 1) (F := { F with pb := pb ++ F.pb, pv := pv ++ F.pv }) g2.symm h3 (fun j u hj => by
      have := htm (j + 1) u (by simpa using hj)
      rwa [show i + (j + 1) = i + 1 + j by omega] at this) hn2 (fun b hb => by
      obtain ⟨f1, f2⟩ := hf b (List.mem_append_right _ hb)
      refine ⟨fun z hz => ?_, f2⟩
      have hz' : G1.blk ((σ.setBs (backO i 0 x).bx).setLs (backO i 0 x).tls) z = some b := by
        have e : ∀ z, G1.blk (σ.app (some i) (backO i 0 x)) z = G1.blk ((σ.setBs (backO i 0 x).bx).setLs (backO i 0 x).tls) z := fun z => by
          cases z <;> rfl
        rw [← e]
        exact hz
      rcases g5 z b hz' with h4 | h4
      · exact hn3 b h4 b hb rfl
      · exact f1 z h4) (fun s hs => by
      rw [hbx, setBs_other _ _ _ (fun y hy e => by
        have := backO_bx i 0 x y hy
        omega)]
      exact hb0 s (by omega)) (fun g hg => by
      rw [app_tl, setLs_tl_other _ _ _ (fun y hy e => by
        have := backO_tls i 0 x y hy
        rw [e] at this
        omega)]
      exact ht0 g (by omega)) (by simp only; omega)
    refine ⟨F', G', i1, i2, i3, i4, i5, i6, fun y hy => i7 y (List.mem_append_right _ hy), fun y hy => i8 y (List.mem_append_right _ hy), fun j o' u hj hu => ?_⟩
    cases j with
    | zero =>
      simp at hj hu
      subst hj
      subst hu
      refine ⟨fun cs e => ?_, fun sz ys e => i8 _ (List.mem_append_left _ (hp2 sz ys e))⟩
      obtain ⟨b, e1, e2⟩ := hp1 cs e
      exact ⟨b, e1, i7 _ (List.mem_append_left _ e2)⟩
    | succ j =>
      obtain ⟨q1, q2⟩ := i9 j o' u (by simpa using hj) (by simpa using hu)
      rw [show i + 1 + j = i + (j + 1) by omega] at q1 q2
      exact ⟨q1, q2⟩

/-- A result is fetched. -/
def resRun (tmps : Array Value) : ResultVar → Sem Value
  | .tmp t => pure (tmps.getD t undef)
  | .cell b t => do loadVar t (← asAddr (tmps.getD b undef))
theorem results_eq (fn : Func) (tmps : Array Value) : results fn tmps = (do
    let vs ← fn.results.mapM (resRun tmps)
    pure (if h : vs.size = 1 then vs[0] else .tuple vs)) := by
  have e : (fun (x : ResultVar) => match x with
    | .tmp t => (pure (tmps.getD t undef) : Sem Value)
    | .cell a t => do loadVar t (← asAddr (tmps.getD a undef))) = resRun tmps := by
    funext x
    cases x <;> rfl
  unfold results
  rw [← e]
  rfl

theorem le_refl (σ : AS) : σ.le σ := ⟨rfl, fun _ _ h => h, fun _ _ h => h⟩

/-- What a body leaves is there. -/
theorem end_rel (h : Rel F G σ a w) : ∀ {rs : List ResultVar} {xs : List (RW × Mode)} {os : List OV} {ks : List (Nat ⊕ Tag)}, resOK P rs xs = true → endOf σ xs = some (os, ks) →
    ∃ us : List Value, (rs.mapM (resRun a.tmps)).run P w = .ok us w ∧ RepOs G.K w us os (ks.filterMap (G.blk σ)) ∧ us.length = rs.length
  | [], [], os, ks, _, he => by
    simp only [endOf, Option.some.injEq, Prod.mk.injEq] at he
    obtain ⟨rfl, rfl⟩ := he
    exact ⟨[], by simp, .nil, rfl⟩
  | [], _ :: _, _, _, hk, _ => by simp [resOK] at hk
  | .tmp _ :: _, [], _, _, hk, _ => by simp [resOK] at hk
  | .cell _ _ :: _, [], _, _, hk, _ => by simp [resOK] at hk
  | .tmp t :: rs, (.cell _ _ _, _) :: _, _, _, hk, _ => by simp [resOK] at hk
  | .tmp t :: rs, (.lit _, _) :: _, _, _, hk, _ => by simp [resOK] at hk
  | .cell _ _ :: rs, (.tmp _, _) :: _, _, _, hk, _ => by simp [resOK] at hk
  | .cell _ _ :: rs, (.lit _, _) :: _, _, _, hk, _ => by simp [resOK] at hk
  | .tmp t :: rs, (.tmp t', m) :: xs, os, ks, hk, he => by
    simp only [resOK, Bool.and_eq_true, decide_eq_true_eq] at hk
    obtain ⟨⟨rfl, hm⟩, hk⟩ := hk
    simp only [endOf, rwVal] at he
    split at he
    case h_2 => cases he
    rename_i o z h1 h2
    simp only [Option.some.injEq, Prod.mk.injEq] at he
    obtain ⟨rfl, rfl⟩ := he
    obtain ⟨us, i1, i2, i3⟩ := end_rel h hk h2
    rw [List.filterMap_append]
    refine ⟨a.tmps.getD t undef :: us, ?_, .cons (argOf_rel h (le_refl σ) (fun e => by rw [e] at hm; cases hm) (h.tmps t) h1) i2, by simp [i3]⟩
    rw [List.mapM_cons]
    simp only [resRun, Sem.run_bind, Sem.run_pure, Result.andThen_ok, i1]
  | .cell t ty :: rs, (.cell t' sz ag, m) :: xs, os, ks, hk, he => by
    simp only [resOK, Bool.and_eq_true, decide_eq_true_eq] at hk
    obtain ⟨⟨⟨⟨rfl, hsz⟩, hag⟩, hm⟩, hk⟩ := hk
    simp only [endOf, rwVal] at he
    split at he
    case h_2 => cases he
    rename_i x hx
    split at he
    case h_2 => cases he
    rename_i o z h1 h2
    simp only [Option.some.injEq, Prod.mk.injEq] at he
    obtain ⟨rfl, rfl⟩ := he
    obtain ⟨us, i1, i2, i3⟩ := end_rel h hk h2
    split at hx
    case h_2 => cases hx
    rename_i s hp
    split at hx
    case h_2 => cases hx
    rename_i cs hcs
    split at hx
    case isFalse => cases hx
    rename_i hlen
    have ht := h.tmps t
    rw [hp] at ht
    obtain ⟨e1, _⟩ := ht.inv_ptr
    obtain ⟨vs, e, hg, hl, hc⟩ := h.boxes s cs hcs
    obtain ⟨v, h3, h4⟩ := load_rel (P := P) (G := G) (σ := σ) (w := w) hsz hag (b := G.ρ s) (off := 0) (cs := cs.take sz) (by simp; omega) (fun i c hi => by
      rw [List.getElem?_take] at hi
      split at hi
      · obtain ⟨v, h2, h3, h4⟩ := hc _ c hi
        exact ⟨v, by rw [Nat.zero_add, cell_heap hg]; exact h2, h3, h4⟩
      · cases hi) hx
    rw [List.filterMap_append]
    refine ⟨v :: us, ?_, .cons (argOf_rel h (le_refl σ) (fun e => by rw [e] at hm; cases hm) h4 h1) i2, by simp [i3]⟩
    rw [List.mapM_cons]
    simp only [resRun, Sem.run_bind, e1, asAddr, Sem.run_pure, Result.andThen_ok, h3, i1]

theorem outs_rel (h : Rel F G σ a w) : ∀ {os : List OV} {ms : List Mode} {vs : List Value} (i : Nat) {ps : List OV} {ks : List (Nat ⊕ Tag)}, modesOK os ms = true → vs.length = os.length → Pinned F i vs os → endOf σ (outsOf i os ms) = some (ps, ks) →
    RepOs G.K w (ptrArgs vs os) ps (ks.filterMap (G.blk σ)) := by
  intro os
  induction os with
  | nil =>
    intro ms vs i ps ks _ hl _ he
    have : vs = [] := List.eq_nil_of_length_eq_zero (by simpa using hl)
    subst this
    simp only [outsOf, endOf, Option.some.injEq, Prod.mk.injEq] at he
    obtain ⟨rfl, rfl⟩ := he
    exact .nil
  | cons o os ih =>
    intro ms vs i ps ks hm hl hp he
    cases vs with
    | nil => simp at hl
    | cons v vs =>
      have hp' : Pinned F (i + 1) vs os := fun j o' u hj hu => by
        obtain ⟨q1, q2⟩ := hp (j + 1) o' u (by simpa using hj) (by simpa using hu)
        rw [show i + (j + 1) = i + 1 + j by omega] at q1 q2
        exact ⟨q1, q2⟩
      obtain ⟨p1, p2⟩ := hp 0 o v rfl rfl
      cases ms with
      | nil => cases o with
        | l y => cases y <;> simp [modesOK] at hm
        | agg y => simp [modesOK] at hm
        | ptr y => simp [modesOK] at hm
      | cons m ms =>
        have hl' : vs.length = os.length := by simpa using hl
        cases o with
        | agg cs =>
          simp only [modesOK] at hm
          simp only [outsOf] at he
          exact ih (i + 1) hm hl' hp' he
        | ptr cs =>
          cases m <;> simp [modesOK] at hm
          rename_i fl
          simp only [outsOf, endOf, rwVal] at he
          split at he
          case h_2 => cases he
          rename_i o z h1 h2
          simp only [Option.some.injEq, Prod.mk.injEq] at he
          obtain ⟨rfl, rfl⟩ := he
          obtain ⟨b, rfl, hb⟩ := p1 cs rfl
          obtain ⟨_, ⟨cs', hcs'⟩, hρ⟩ := h.pinb _ _ hb
          rw [List.filterMap_append]
          simp only [ptrArgs]
          refine .cons (argOf_rel h (le_refl σ) (by simp) ?_ h1) (ih (i + 1) hm hl' hp' h2)
          rw [← hρ, Nat.add_zero]
          rw [Nat.add_zero] at hcs'
          exact .ptr i 0 cs' hcs'
        | l y =>
          cases y with
          | fz y =>
            simp only [modesOK] at hm
            simp only [outsOf] at he
            exact ih (i + 1) hm hl' hp' he
          | ow y z =>
            simp only [modesOK] at hm
            simp only [outsOf] at he
            exact ih (i + 1) hm hl' hp' he
          | mu sz ys =>
            cases m <;> simp [modesOK] at hm
            simp only [outsOf, endOf, rwVal] at he
            split at he
            case h_2 => cases he
            rename_i o z h1 h2
            simp only [Option.some.injEq, Prod.mk.injEq] at he
            obtain ⟨rfl, rfl⟩ := he
            have hv := p2 sz ys rfl
            obtain ⟨_, n, k, htl, hV⟩ := h.pinv _ _ hv
            rw [Nat.add_zero] at htl hV
            rw [List.filterMap_append]
            simp only [ptrArgs]
            have hone : v.oneCell' = true ∧ v = G.V (0, i, 0) ∧ n = 0 := by
              simp only [argOf] at h1
              rw [Option.map_eq_some_iff] at h1
              obtain ⟨q, hq, _⟩ := h1
              unfold IV.moLeaf at hq
              simp only at hq
              split at hq
              case h_2 => cases hq
              rename_i r' sz' es htl2
              split at hq
              case isFalse => cases hq
              rename_i hz
              rw [htl] at htl2
              simp only [Option.some.injEq, Prod.mk.injEq] at htl2
              obtain ⟨rfl, rfl⟩ := htl2
              have hVv := hV sz' es hz.symm rfl
              obtain ⟨bl, hrow⟩ := h.rows _ _ _ htl
              refine ⟨?_, hVv.symm, hz.symm⟩
              rw [← hVv]
              rcases hrow.inv_mu with ⟨e1, _⟩ | ⟨b, cap, cur, e, f, e1, _⟩ <;> rw [e1] <;> rfl
            obtain ⟨hone, hVv, hn0⟩ := hone
            refine .cons (argOf_rel h (le_refl σ) (by simp) ?_ h1) (ih (i + 1) hm hl' hp' h2)
            exact .mo _ 0 n k hone htl (Nat.zero_le _) fun _ _ _ _ => hVv

theorem RepOs.len {K : Nat → Nat} {vs : List Value} {os : List OV} {bs : List Nat} (h : RepOs K w vs os bs) : vs.length = os.length := by
  induction h with
  | nil => rfl
  | cons _ _ ih => simp [ih]

/-- THE CONTRACT OF A FUNCTION, from what its body comes to. -/
theorem ev_of_aw {f : FuncId} {fn : Func} {c : Code} {ac : AC} {os : List OV} {r : RV} {outs : List OV} {rs : List (RW × Mode)} {ms : List Mode} (hf : P.funcs[f]? = some fn) (hb : fn.body = some c) (hn : (fn.name == "runtime.NumGoroutine") = false)
    (hnt : os.length ≤ fn.ntmps) (hc : chkC P fn.ntmps os.length c ac = true) (hres : resOK P fn.results.toList rs = true) (hms : modesOK os ms = true)
    (hs : aw (Ev P) os.length ac (fun e σ => match e with
      | .exit _ => False
      | _ => endB σ rs (outsOf 0 os ms) = some (r, outs)) (argsS 0 os .empty)) : Ev P f os r outs := by
  refine ⟨⟨fn, hf, hn, by rw [hb]; rfl⟩, fun K w vs bs hkok hargs hnd => ?_⟩
  have hlen := hargs.len
  have hvs : vs.size = os.length := hlen
  refine calls_of_wp hf hb ?_
  let a0 : Act := { tmps := vs ++ Array.replicate (fn.ntmps - vs.size) undef, defers := [] }
  let F0 : Fr := { nt := fn.ntmps, W0 := w, T := bs, K0 := K, np := os.length, pb := [], pv := [] }
  let G0 : Gh := { K := K, ρ := fun _ => 0, V := fun _ => undef }
  have hblk0 : ∀ x, G0.blk .empty x = none := fun x => by cases x <;> rfl
  have h0 : Rel F0 G0 .empty a0 w := ⟨rfl, by simp [a0, F0]; omega, fun t => .undef _, fun s cs hs => (by cases hs), fun g n k hg => (by cases hg), fun x y b hx => (by rw [hblk0] at hx; cases hx), fun s cs hs => (by cases hs), fun x b hx => (by rw [hblk0] at hx; cases hx), hkok, fun _ _ _ => rfl, Ext.refl _ _, Keep.refl _ _, fun s b hs => (by cases hs), fun g V hg => (by cases hg), fun g V hg => (by cases hg)⟩
  have hmineT : ∀ b ∈ bs, b ∈ F0.T ∨ F0.W0.heap.size ≤ b := fun b hb => .inl hb
  obtain ⟨F1, G1, h1, e1, e2, e3, e4, e5, _, _, hpin⟩ := enter_ok (a := a0) 0 hargs h0 (fun j v hj => by
    have hlt := lt_of_getElem? hj
    have hlt' : j < vs.size := by simpa using hlt
    rw [Array.getElem?_toList] at hj
    simp only [a0, Nat.zero_add]
    rw [Array.getElem?_append_left hlt']
    exact hj) hnd (fun b hb => ⟨fun x hx => (by rw [hblk0] at hx; cases hx), hmineT b hb⟩) (fun _ _ => rfl) (fun _ _ => rfl) (by simp [F0])
  refine wp_mono (code_ok ac c (by rw [e1, e5]; exact hc) h1 (by rw [e5]; exact hs)) fun e a' w' hsat => ?_
  obtain ⟨z, G', σ', rfl, g1, g2⟩ := hsat
  have fin : endB σ' rs (outsOf 0 os ms) = some (r, outs) → a'.defers = [] ∧ ∃ v, (results fn a'.tmps).run P w' = .ok v w' ∧ ∃ (v' : Value) (K' : Nat → Nat) (br bo : List Nat), Ending.returned v = .returned v' ∧ Keep (· ∈ bs) w w' ∧ KOK K' w' ∧ Ext K K' w w' ∧ (∀ b, b < w.heap.size → b ∉ bs → K' b = K b) ∧
      RepR K' w' v' r br ∧ RepOs K' w' (ptrArgs vs.toList os) outs bo ∧ (br ++ bo).Nodup ∧ ∀ b ∈ br ++ bo, b ∈ bs ∨ w.heap.size ≤ b := by
    intro hend
    refine ⟨g1.defers, ?_⟩
    unfold endB at hend
    split at hend
    case h_2 => cases hend
    rename_i x y hx hy
    split at hend
    case isFalse => cases hend
    rename_i hnodup
    simp only [Option.some.injEq, Prod.mk.injEq] at hend
    obtain ⟨rfl, rfl⟩ := hend
    obtain ⟨us, i1, i2, i3⟩ := end_rel g1 hres hx
    have i4 := outs_rel g1 0 (vs := vs.toList) hms hlen hpin hy
    have hrun : (fn.results.mapM (resRun a'.tmps)).run P w' = .ok us.toArray w' := by
      rw [Array.mapM_eq_mapM_toList, Sem.run_map]
      rw [i1]
      rfl
    have hnd2 := nodup_filterMap (f := G'.blk σ') g1.disj hnodup
    rw [List.filterMap_append] at hnd2
    have hmine : ∀ b ∈ x.2.filterMap (G'.blk σ') ++ y.2.filterMap (G'.blk σ'), b ∈ bs ∨ w.heap.size ≤ b := by
      intro b hb
      rw [← List.filterMap_append, List.mem_filterMap] at hb
      obtain ⟨q, _, hq⟩ := hb
      have := g1.mine q b hq
      rw [e3, e2] at this
      exact this
    have hkeep := g1.keep
    rw [e3, e2] at hkeep
    have hext := g1.ext
    rw [e4, e2] at hext
    have hkold := g1.kold
    rw [e4, e2, e3] at hkold
    have hr : RepR G'.K w' (if h : us.toArray.size = 1 then us.toArray[0] else .tuple us.toArray) (mkRV x.1) (x.2.filterMap (G'.blk σ')) := by
      have hlen2 := i2.len
      cases hx1 : x.1 with
      | nil =>
        rw [hx1] at i2 hlen2
        have : us = [] := List.eq_nil_of_length_eq_zero (by simpa using hlen2)
        subst this
        exact .tup i2
      | cons o1 l =>
        cases l with
        | nil =>
          rw [hx1] at i2 hlen2
          match us, i2, hlen2 with
          | [u], i2, _ =>
            generalize x.2.filterMap (G'.blk σ') = bl at i2
            simp only [List.size_toArray, List.length_singleton, dite_true, mkRV]
            cases i2 with
            | cons ho hn =>
              cases hn
              rw [List.append_nil]
              exact .one ho
        | cons o2 l =>
          rw [hx1] at i2 hlen2
          have : us.length ≠ 1 := by simp at hlen2; omega
          rw [dif_neg (by simpa using this)]
          exact .tup i2
    refine ⟨_, by simp only [results_eq, Sem.run_bind, hrun, Result.andThen_ok, Sem.run_pure], _, G'.K, _, _, rfl, hkeep, g1.kok, hext, hkold, hr, i4, hnd2, hmine⟩
  cases z with
  | normal => exact fin g2
  | ret => exact fin g2
  | exit i => exact g2.elim

end

end Go.Proofs.Ytfhgjhchjekbgaa
set_option linter.unusedVariables false
set_option linter.unusedSimpArgs false
namespace Go.Proofs.Ytfhgjhchjekbgaa
open Go

/-- Has the function this abstract body, and these results? -/
def fnOK (P : Program) (np : Nat) (fn : Func) (ac : AC) (rs : List (RW × Mode)) : Bool :=
  match fn.body with
  | some c => chkC P fn.ntmps np c ac && resOK P fn.results.toList rs && decide (np ≤ fn.ntmps) && !(fn.name == "runtime.NumGoroutine")
  | none => false

/-- What a body is to leave. -/
def Ends (rs outs : List (RW × Mode)) (r : RV) (ov : List OV) (e : AX) (σ : AS) : Prop :=
  match e with
  | .exit _ => False
  | _ => endB σ rs outs = some (r, ov)

theorem ev_of {P : Program} {f : FuncId} {fn : Func} {ac : AC} {os : List OV} {r : RV} {outs : List OV} (np : Nat) (rs : List (RW × Mode)) (ms : List Mode) (hf : P.funcs[f]? = some fn) (hk : fnOK P np fn ac rs = true) (hn : os.length = np) (hms : modesOK os ms = true)
    (hs : aw (Ev P) np ac (Ends rs (outsOf 0 os ms) r outs) (argsS 0 os .empty)) : Ev P f os r outs := by
  unfold fnOK at hk
  split at hk
  case h_2 => cases hk
  rename_i c hb
  simp only [Bool.and_eq_true, decide_eq_true_eq, Bool.not_eq_true'] at hk
  obtain ⟨⟨⟨h1, h2⟩, h3⟩, h4⟩ := hk
  subst hn
  refine ev_of_aw hf hb h4 h3 h1 h2 hms ?_
  exact hs

end Go.Proofs.Ytfhgjhchjekbgaa
set_option linter.unusedVariables false
set_option linter.unusedSimpArgs false
namespace Go.Proofs.Ytfhgjhchjekbgaa
open Go

def getT : List (Nat × IV) → Nat → IV
  | [], _ => .undef
  | (t', v) :: r, t => if t = t' then v else getT r t
def getB : List (Nat × List IV) → Nat → Option (List IV)
  | [], _ => none
  | (s', v) :: r, s => if s = s' then some v else getB r s
def getL : List (Tag × Nat × RK) → Tag → Option (Nat × RK)
  | [], _ => none
  | (s', v) :: r, s => if s = s' then some v else getL r s
/-- A state, written out. -/
def St (ts : List (Nat × IV)) (bs : List (Nat × List IV)) (ls : List (Tag × Nat × RK)) : AS := { tmp := getT ts, box := getB bs, tl := getL ls }

def tsOK (σ : AS) : List (Nat × IV) → Prop
  | [] => True
  | (t, v) :: r => (σ.tmp t).Le v ∧ tsOK σ r
def bsOK (σ : AS) : List (Nat × List IV) → Prop
  | [] => True
  | (t, v) :: r => (∃ v0, σ.box t = some v0 ∧ IV.LeL v0 v) ∧ bsOK σ r
def lsOK (σ : AS) : List (Tag × Nat × RK) → Prop
  | [] => True
  | (t, v) :: r => σ.tl t = some v ∧ lsOK σ r
def pvOK (σ σ' : AS) : Nat → Prop
  | 0 => True
  | n + 1 => σ'.tl (0, n, 0) = σ.tl (0, n, 0) ∧ pvOK σ σ' n
def pbOK (σ σ' : AS) : Nat → Prop
  | 0 => True
  | n + 1 => (!(σ.box n).isSome || (σ'.box n).isSome) = true ∧ pbOK σ σ' n
def refsOK (ts : List (Nat × IV)) (bs : List (Nat × List IV)) (σ : AS) : Bool := ts.all (fun x => σ.ref x.2) && bs.all (fun x => x.2.all σ.ref)

theorem le_rfl (x : IV) : x.Le x := .inl rfl
theorem le_fz {x : IV} {v : PV} (h : x.fz = some v) : x.Le (.p v) := .inr ⟨v, h, rfl⟩
theorem leL_rfl : ∀ (xs : List IV), IV.LeL xs xs
  | [] => trivial
  | x :: xs => ⟨le_rfl x, leL_rfl xs⟩
theorem box_rfl {σ : AS} {s : Nat} {v : List IV} (h : σ.box s = some v) : ∃ v0, σ.box s = some v0 ∧ IV.LeL v0 v := ⟨v, h, leL_rfl v⟩
theorem box_le {σ : AS} {s : Nat} {v0 v : List IV} (h : σ.box s = some v0) (h2 : IV.LeL v0 v) : ∃ v0, σ.box s = some v0 ∧ IV.LeL v0 v := ⟨v0, h, h2⟩
theorem wk_St {np : Nat} {σ : AS} {ts : List (Nat × IV)} {bs : List (Nat × List IV)} {ls : List (Tag × Nat × RK)} (h1 : tsOK σ ts) (h2 : bsOK σ bs) (h3 : lsOK σ ls) (h4 : refsOK ts bs (St ts bs ls) = true) (h5 : pbOK σ (St ts bs ls) np) (h6 : pvOK σ (St ts bs ls) np) : Wk np σ (St ts bs ls) := by
  unfold refsOK at h4
  simp only [Bool.and_eq_true, List.all_eq_true] at h4
  obtain ⟨h4, h4'⟩ := h4
  have kt : ∀ (ts : List (Nat × IV)) (t : Nat), tsOK σ ts → getT ts t = .undef ∨ ∃ x ∈ ts, x.1 = t ∧ getT ts t = x.2 ∧ (σ.tmp t).Le x.2 := by
    intro ts
    induction ts with
    | nil => intro t _; exact .inl rfl
    | cons y ts ih =>
      intro t h
      obtain ⟨t', v⟩ := y
      simp only [getT]
      by_cases e : t = t'
      · subst e
        exact .inr ⟨(t, v), by simp, rfl, by simp, h.1⟩
      · rw [if_neg e]
        rcases ih t h.2 with h | ⟨x, h1, h2⟩
        · exact .inl h
        · exact .inr ⟨x, by simp [h1], h2⟩
  have kb : ∀ (bs : List (Nat × List IV)) (s : Nat) (cs : List IV), bsOK σ bs → getB bs s = some cs → (s, cs) ∈ bs ∧ ∃ v0, σ.box s = some v0 ∧ IV.LeL v0 cs := by
    intro bs
    induction bs with
    | nil => intro s cs _ h; cases h
    | cons y bs ih =>
      intro s cs h hg
      obtain ⟨t', v⟩ := y
      simp only [getB] at hg
      by_cases e : s = t'
      · subst e
        rw [if_pos rfl] at hg
        cases hg
        exact ⟨by simp, h.1⟩
      · rw [if_neg e] at hg
        obtain ⟨h1, h2⟩ := ih s cs h.2 hg
        exact ⟨by simp [h1], h2⟩
  have kl : ∀ (ls : List (Tag × Nat × RK)) (g : Tag) (x : Nat × RK), lsOK σ ls → getL ls g = some x → σ.tl g = some x := by
    intro ls
    induction ls with
    | nil => intro g x _ h; cases h
    | cons y ls ih =>
      intro g x h hg
      obtain ⟨t', v⟩ := y
      simp only [getL] at hg
      by_cases e : g = t'
      · subst e
        rw [if_pos rfl] at hg
        cases hg
        exact h.1
      · rw [if_neg e] at hg
        exact ih g x h.2 hg
  refine ⟨fun t => ?_, fun s cs hs => ?_, fun g x hg => kl ls g x h3 hg, fun s hs hb => ?_, fun s hs => ?_⟩
  · rcases kt ts t h1 with h | ⟨x, hx, rfl, h5, h6⟩
    · exact .inl h
    · refine .inr ⟨?_, ?_⟩
      · show (σ.tmp x.1).Le (getT ts x.1)
        rw [h5]
        exact h6
      · show (St ts bs ls).ref (getT ts x.1) = true
        rw [h5]
        exact h4 x hx
  · obtain ⟨h7, v0, h8, h9⟩ := kb bs s cs h2 hs
    exact ⟨v0, h8, h9, h4' _ h7⟩
  · clear h6
    induction np with
    | zero => omega
    | succ n ih =>
      by_cases e : s = n
      · subst e
        have h9 := h5.1
        rw [hb] at h9
        simpa using h9
      · exact ih h5.2 (by omega)
  · clear h5
    induction np with
    | zero => omega
    | succ n ih =>
      by_cases e : s = n
      · subst e
        exact h6.1
      · exact ih h6.2 (by omega)

section
variable {E : FuncId → List OV → RV → List OV → Prop} {np : Nat} {Q : AX → AS → Prop} {R : AS → Prop} {σ : AS}

/-- A branch, either way. -/
theorem aw_cond {x : Opd} {a b : AC} {t : Bool} (h : σ.val x = .p (.bool t)) (h1 : t = true → aw E np a Q σ) (h2 : t = false → aw E np b Q σ) : aw E np (.cond x a b) Q σ := by
  simp only [aw, h]
  cases t
  · exact h2 rfl
  · exact h1 rfl
/-- An operation that comes to this. -/
theorem op_ev {o : AO} {os : List AO} {r : Res} (hg : o.g = none) (h : evK (σ.see o.vb o.vl) (o.dst.getD 0) o.k = some r) (h2 : awOps E os R (σ.app o.dst r)) : awOps E (o :: os) R σ := by
  show awOp E o (awOps E os R) σ
  rw [awOp_iff]
  refine ⟨r, ?_, h2⟩
  unfold OpS
  rw [hg]
  simp only
  unfold stepS
  split
  · rename_i e
    rw [e] at h
    cases h
  · rename_i e
    rw [e] at h
    cases h
  · exact h
/-- A call. -/
theorem op_call {dst : Option Nat} {f : FuncId} {args : List (Opd × Mode)} {vb vl : Vis} {os : List AO} {as outs : List OV} {r : RV} {x : Res} (h1 : argsOf (σ.see vb vl) args = some as) (h2 : E f as r outs) (h3 : callRes (σ.see vb vl) (dst.getD 0) args r outs = some x)
    (h : awOps E os R (σ.app dst x)) : awOps E ({ dst := dst, k := .call f args, vb := vb, vl := vl } :: os) R σ := by
  show awOp E _ (awOps E os R) σ
  rw [awOp_iff]
  exact ⟨x, ⟨as, r, outs, h1, h2, h3⟩, h⟩
/-- A call that a guard may leave out. -/
theorem op_guard {o : AO} {os : List AO} {t : Nat} {want b : Bool} (hg : o.g = some (t, want)) (hb : σ.tmp t = .p (.bool b)) (h1 : b = want → awOps E ({ o with g := none } :: os) R σ) (h2 : b = !want → awOps E os R (σ.app o.dst { v := .p (.tup []) })) : awOps E (o :: os) R σ := by
  show awOp E o (awOps E os R) σ
  by_cases e : b = want
  · have := h1 e
    rw [show awOps E ({ o with g := none } :: os) R σ = awOp E { o with g := none } (awOps E os R) σ from rfl, awOp_iff] at this
    obtain ⟨r, h3, h4⟩ := this
    rw [awOp_iff]
    refine ⟨r, ?_, h4⟩
    unfold OpS at h3 ⊢
    rw [hg]
    exact .inl ⟨b, hb, .inl ⟨e, h3⟩⟩
  · have := h2 (by cases b <;> cases want <;> simp_all)
    rw [awOp_iff]
    refine ⟨_, ?_, this⟩
    unfold OpS
    rw [hg]
    exact .inl ⟨b, hb, .inr ⟨e, rfl⟩⟩
end

end Go.Proofs.Ytfhgjhchjekbgaa
set_option linter.unusedVariables false
set_option linter.unusedSimpArgs false
namespace Go.Proofs.Ytfhgjhchjekbgaa
open Go

theorem AS.ext' {σ σ' : AS} (h1 : ∀ t, σ.tmp t = σ'.tmp t) (h2 : ∀ t, σ.box t = σ'.box t) (h3 : ∀ t, σ.tl t = σ'.tl t) : σ = σ' := by
  cases σ
  cases σ'
  simp only [AS.mk.injEq]
  exact ⟨funext h1, funext h2, funext h3⟩

section
variable (ts : List (Nat × IV)) (bs : List (Nat × List IV)) (ls : List (Tag × Nat × RK))

theorem St_empty : AS.empty = St [] [] [] := rfl
theorem St_setT (d : Nat) (v : IV) : (St ts bs ls).setT d v = St ((d, v) :: ts) bs ls := rfl
theorem St_setB (d : Nat) (v : List IV) : (St ts bs ls).setB d v = St ts ((d, v) :: bs) ls := rfl
theorem St_setL (d : Tag) (v : Nat × RK) : (St ts bs ls).setL d v = St ts bs ((d, v) :: ls) := rfl
theorem St_val_t (n : Nat) : (St ts bs ls).val (.t n) = getT ts n := rfl
theorem St_val_c (v : PV) : (St ts bs ls).val (.c v) = .p v := rfl
theorem St_val_nl (n : Nat) : (St ts bs ls).val (.nl n) = .nil n := rfl
theorem St_val_fn (f : FuncId) : (St ts bs ls).val (.fn f) = .clo f [] := rfl
theorem St_tmp (n : Nat) : (St ts bs ls).tmp n = getT ts n := rfl
theorem St_box (n : Nat) : (St ts bs ls).box n = getB bs n := rfl
theorem St_tl (n : Tag) : (St ts bs ls).tl n = getL ls n := rfl
theorem St_see : (St ts bs ls).see (.but []) (.but []) = St ts bs ls := by
  refine AS.ext' (fun t => rfl) (fun t => ?_) (fun t => ?_) <;> simp [AS.see, Vis.has]
def killTs (S : List Nat) : List (Nat × IV) → List (Nat × IV)
  | [] => []
  | (t, v) :: r => (t, v.kill S) :: killTs S r
def killBs (S : List Nat) : List (Nat × List IV) → List (Nat × List IV)
  | [] => []
  | (s, cs) :: r => if S.contains s then killBs S r else (s, IV.killL S cs) :: killBs S r
def killLs (S : List Nat) : List (Tag × Nat × RK) → List (Tag × Nat × RK)
  | [] => []
  | (g, x) :: r => if S.contains g.site then killLs S r else (g, x) :: killLs S r
theorem St_kill (S : List Nat) : (St ts bs ls).kill S = St (killTs S ts) (killBs S bs) (killLs S ls) := by
  refine AS.ext' (fun t => ?_) (fun t => ?_) (fun t => ?_)
  · show (getT ts t).kill S = getT (killTs S ts) t
    induction ts with
    | nil => rfl
    | cons x ts ih =>
      obtain ⟨t', v⟩ := x
      simp only [getT, killTs]
      split
      · rfl
      · exact ih
  · show (if S.contains t then none else (getB bs t).map (IV.killL S)) = getB (killBs S bs) t
    induction bs with
    | nil => simp [getB, killBs]
    | cons x bs ih =>
      obtain ⟨t', v⟩ := x
      cases h : S.contains t' with
      | true =>
        have e1 : killBs S ((t', v) :: bs) = killBs S bs := by simp only [killBs, h, if_true]
        rw [e1, ← ih]
        by_cases e : t = t'
        · subst e
          simp only [h, if_true]
        · simp only [getB, if_neg e]
      | false =>
        have e1 : killBs S ((t', v) :: bs) = (t', IV.killL S v) :: killBs S bs := by simp only [killBs, h, Bool.false_eq_true, if_false]
        rw [e1]
        by_cases e : t = t'
        · subst e
          simp only [h, getB, if_true, Bool.false_eq_true, if_false, Option.map_some]
        · simp only [getB, if_neg e]
          exact ih
  · show (if S.contains t.site then none else getL ls t) = getL (killLs S ls) t
    induction ls with
    | nil => simp [getL, killLs]
    | cons x ls ih =>
      obtain ⟨t', v⟩ := x
      cases h : S.contains t'.site with
      | true =>
        have e1 : killLs S ((t', v) :: ls) = killLs S ls := by simp only [killLs, h, if_true]
        rw [e1, ← ih]
        by_cases e : t = t'
        · subst e
          simp only [h, if_true]
        · simp only [getL, if_neg e]
      | false =>
        have e1 : killLs S ((t', v) :: ls) = (t', v) :: killLs S ls := by simp only [killLs, h, Bool.false_eq_true, if_false]
        rw [e1]
        by_cases e : t = t'
        · subst e
          simp only [h, getL, if_true, Bool.false_eq_true, if_false]
        · simp only [getL, if_neg e]
          exact ih
end

section
variable {E : FuncId → List OV → RV → List OV → Prop} {np : Nat} {Q : AX → AS → Prop} {R : AS → Prop} {σ : AS}
/-- What comes after. -/
def SeqK (E : FuncId → List OV → RV → List OV → Prop) (np : Nat) (b : AC) (Q : AX → AS → Prop) (e : AX) (σ : AS) : Prop := match e with
  | .normal => aw E np b Q σ
  | e => Q e σ
def BlkK (id : Nat) (Q : AX → AS → Prop) (e : AX) (σ : AS) : Prop := match e with
  | .exit i => if i = id then Q .normal σ else Q (.exit i) σ
  | e => Q e σ
theorem aw_seq {a b : AC} (h : aw E np a (SeqK E np b Q) σ) : aw E np (.seq a b) Q σ := h
theorem aw_blk {id : Nat} {a : AC} (h : aw E np a (BlkK id Q) σ) : aw E np (.block id a) Q σ := h
theorem aw_reg {dr : Bool} {ops : List AO} (h : awOps E ops (Q .normal) (σ.kill (newsOf ops))) : aw E np (.reg dr ops) Q σ := h
theorem aw_skip (h : Q .normal σ) : aw E np .skip Q σ := h
theorem aw_ret (h : Q .ret σ) : aw E np .ret Q σ := h
theorem aw_exit {id : Nat} (h : Q (.exit id) σ) : aw E np (.exit id) Q σ := h
theorem seq_n {b : AC} (h : aw E np b Q σ) : SeqK E np b Q .normal σ := h
theorem seq_r {b : AC} (h : Q .ret σ) : SeqK E np b Q .ret σ := h
theorem seq_x {b : AC} {id : Nat} (h : Q (.exit id) σ) : SeqK E np b Q (.exit id) σ := h
theorem blk_n {id : Nat} (h : Q .normal σ) : BlkK id Q .normal σ := h
theorem blk_r {id : Nat} (h : Q .ret σ) : BlkK id Q .ret σ := h
theorem blk_x {id : Nat} (h : Q .normal σ) : BlkK id Q (.exit id) σ := by
  show (if id = id then Q .normal σ else Q (.exit id) σ)
  rw [if_pos rfl]
  exact h
theorem blk_o {id i : Nat} (hne : i ≠ id) (h : Q (.exit i) σ) : BlkK id Q (.exit i) σ := by
  show (if i = id then Q .normal σ else Q (.exit i) σ)
  rw [if_neg hne]
  exact h
end

/-! ### Many operations at once -/

/-- An operation that calls nothing. -/
def stepR (σ : AS) (o : AO) : Option AS :=
  match o.g with
  | none => (evK (σ.see o.vb o.vl) (o.dst.getD 0) o.k).map (σ.app o.dst)
  | some (t, want) => match σ.tmp t with
    | .p (.bool b) => if b = want then (evK (σ.see o.vb o.vl) (o.dst.getD 0) o.k).map (σ.app o.dst) else some (σ.app o.dst { v := .p (.tup []) })
    | .p (.tup []) => some (σ.app o.dst { v := .p (.tup []) })
    | _ => none
def runOps : Nat → List AO → AS → Option (List AO × AS)
  | 0, os, σ => some (os, σ)
  | _ + 1, [], σ => some ([], σ)
  | n + 1, o :: os, σ => match stepR σ o with
    | some σ' => runOps n os σ'
    | none => none
section
variable {E : FuncId → List OV → RV → List OV → Prop} {R : AS → Prop} {σ : AS}
theorem evK_call {σ : AS} {d : Nat} {k : AK} {r : Res} (h : evK σ d k = some r) : stepS E σ d k r := by
  unfold stepS
  split
  · cases h
  · cases h
  · exact h
theorem stepR_ok {o : AO} {σ' : AS} (h : stepR σ o = some σ') {os : List AO} (h2 : awOps E os R σ') : awOps E (o :: os) R σ := by
  show awOp E o (awOps E os R) σ
  rw [awOp_iff]
  unfold stepR at h
  unfold OpS
  split at h
  · rename_i e
    rw [Option.map_eq_some_iff] at h
    obtain ⟨r, h1, rfl⟩ := h
    refine ⟨r, ?_, h2⟩
    simp only [e]
    exact evK_call h1
  · rename_i t want e
    split at h
    · rename_i b hb
      simp only [e]
      split at h
      · rename_i hbw
        rw [Option.map_eq_some_iff] at h
        obtain ⟨r, h1, rfl⟩ := h
        exact ⟨r, .inl ⟨b, hb, .inl ⟨hbw, evK_call h1⟩⟩, h2⟩
      · rename_i hbw
        simp only [Option.some.injEq] at h
        subst h
        exact ⟨_, .inl ⟨b, hb, .inr ⟨hbw, rfl⟩⟩, h2⟩
    · rename_i hb
      simp only [Option.some.injEq] at h
      subst h
      simp only [e]
      exact ⟨_, .inr ⟨hb, rfl⟩, h2⟩
    · cases h
theorem ops_run : ∀ (n : Nat) {os os' : List AO} {σ σ' : AS}, runOps n os σ = some (os', σ') → awOps E os' R σ' → awOps E os R σ
  | 0, os, os', σ, σ', h, h2 => by
    simp only [runOps, Option.some.injEq, Prod.mk.injEq] at h
    obtain ⟨rfl, rfl⟩ := h
    exact h2
  | n + 1, [], os', σ, σ', h, h2 => by
    simp only [runOps, Option.some.injEq, Prod.mk.injEq] at h
    obtain ⟨rfl, rfl⟩ := h
    exact h2
  | n + 1, o :: os, os', σ, σ', h, h2 => by
    simp only [runOps] at h
    split at h
    · rename_i σ1 h1
      exact stepR_ok h1 (ops_run n h h2)
    · cases h
end

end Go.Proofs.Ytfhgjhchjekbgaa
set_option linter.unusedVariables false
set_option linter.unusedSimpArgs false
namespace Go.Proofs.Ytfhgjhchjekbgaa
open Go

section
variable {E : FuncId → List OV → RV → List OV → Prop} {np : Nat} {Q : AX → AS → Prop} {R : AS → Prop} {σ : AS}

theorem setT_same {t : Nat} {v : IV} (h : σ.tmp t = v) : σ.setT t v = σ := by
  refine AS.ext' (fun s => ?_) (fun _ => rfl) (fun _ => rfl)
  simp only [AS.setT]
  split
  · rename_i e
    rw [e]
    exact h.symm
  · rfl

/-- A guard: what it says is put into its temporary. -/
theorem op_if {o : AO} {os : List AO} {t : Nat} {want b : Bool} (hg : o.g = some (t, want)) (hb : σ.tmp t = .p (.bool b)) (h1 : b = true → awOps E (o :: os) R (σ.setT t (.p (.bool true)))) (h2 : b = false → awOps E (o :: os) R (σ.setT t (.p (.bool false)))) : awOps E (o :: os) R σ := by
  cases b with
  | true =>
    have := h1 rfl
    rwa [setT_same hb] at this
  | false =>
    have := h2 rfl
    rwa [setT_same hb] at this
/-- A branch: what it says is put into its temporary. -/
theorem aw_if {t : Nat} {a b : AC} {c : Bool} (hb : σ.tmp t = .p (.bool c)) (h1 : c = true → aw E np a Q (σ.setT t (.p (.bool true)))) (h2 : c = false → aw E np b Q (σ.setT t (.p (.bool false)))) : aw E np (.cond (.t t) a b) Q σ := by
  cases c with
  | true =>
    have := h1 rfl
    rw [setT_same hb] at this
    exact aw_cond hb (fun _ => this) (fun h => by cases h)
  | false =>
    have := h2 rfl
    rw [setT_same hb] at this
    exact aw_cond hb (fun h => by cases h) (fun _ => this)
theorem aw_yes {t : Nat} {a b : AC} (hb : σ.tmp t = .p (.bool true)) (h1 : aw E np a Q σ) : aw E np (.cond (.t t) a b) Q σ := aw_cond hb (fun _ => h1) (fun h => by cases h)
theorem aw_no {t : Nat} {a b : AC} (hb : σ.tmp t = .p (.bool false)) (h1 : aw E np b Q σ) : aw E np (.cond (.t t) a b) Q σ := aw_cond hb (fun h => by cases h) (fun _ => h1)
/-- A guard that holds: the operation itself is to be walked. -/
theorem op_on {dst : Option Nat} {k : AK} {vb vl : Vis} {os : List AO} {t : Nat} {want : Bool} (hb : σ.tmp t = .p (.bool want)) (h : awOps E ({ dst := dst, k := k, vb := vb, vl := vl } :: os) R σ) : awOps E ({ dst := dst, k := k, g := some (t, want), vb := vb, vl := vl } :: os) R σ :=
  op_guard rfl hb (fun _ => h) (fun e => by cases want <;> cases e)

/-- A temporary gets a value that is equal. -/
theorem op_is {t : Nat} {v v' : IV} {os : List AO} (hb : σ.tmp t = v) (e : v = v') (h : awOps E os R (σ.setT t v')) : awOps E os R σ := by
  rw [← e, setT_same hb] at h
  exact h
theorem aw_is {t : Nat} {v v' : IV} {a : AC} (hb : σ.tmp t = v) (e : v = v') (h : aw E np a Q (σ.setT t v')) : aw E np a Q σ := by
  rw [← e, setT_same hb] at h
  exact h

section
variable {dst : Option Nat} {vb vl : Vis} {os : List AO}

theorem op_ia {x i : Opd} {sz : Nat} {xs : List (List PV)} {n : Int} {e : List PV} (hx : (σ.val x).elems = some xs) (hi : (σ.val i).int? = some n) (h0 : 0 ≤ n) (he : xs[n.toNat]? = some e) (hs : e.length = sz)
    (h : awOps E os R (σ.app dst { v := .p (.cptr e) })) : awOps E ({ dst := dst, k := .ia x i sz, vb := vb, vl := vl } :: os) R σ := by
  refine op_ev rfl ?_ h
  simp only [evK, see_val, hx, hi, h0, if_true, he, hs]
theorem op_ix {x i : Opd} {s : List UInt8} {n : Int} {b : UInt8} (hx : σ.val x = .p (.str s)) (hi : (σ.val i).int? = some n) (h0 : 0 ≤ n) (hb : s[n.toNat]? = some b)
    (h : awOps E os R (σ.app dst { v := .p (.int .u8 b.toNat) })) : awOps E ({ dst := dst, k := .ix x i, vb := vb, vl := vl } :: os) R σ := by
  refine op_ev rfl ?_ h
  simp only [evK, see_val, hx, hi, h0, if_true, hb]
/-- A string is cut. -/
theorem op_ss {x : Opd} {lo hi : Option Opd} {s : List UInt8} {l m : Nat} (hx : σ.val x = .p (.str s)) (hl : bound? σ 0 lo = some l) (hm : bound? σ s.length hi = some m) (hlm : l ≤ m) (hms : m ≤ s.length)
    (h : awOps E os R (σ.app dst { v := .p (.str ((s.take m).drop l)) })) : awOps E ({ dst := dst, k := .ss x lo hi, vb := vb, vl := vl } :: os) R σ := by
  refine op_ev rfl ?_ h
  have e : ∀ (n : Nat) (y : Option Opd), bound? (σ.see vb vl) n y = bound? σ n y := fun n y => bound_congr fun z _ => see_val _ _ _ _
  simp only [evK, see_val, hx, e, hl, hm]
  rw [if_pos ⟨hlm, hms⟩]
theorem op_sl {x : Opd} {lo hi : Option Opd} {sz : Nat} {s : List (List PV)} {l m : Nat} (hx : (σ.val x).elems = some s) (hl : bound? σ 0 lo = some l) (hm : bound? σ s.length hi = some m) (hlm : l ≤ m) (hms : m ≤ s.length) (hs : ∀ e ∈ s, e.length = sz)
    (h : awOps E os R (σ.app dst { v := .p (.slice ((s.take m).drop l)) })) : awOps E ({ dst := dst, k := .sl x lo hi sz, vb := vb, vl := vl } :: os) R σ := by
  refine op_ev rfl ?_ h
  have e : ∀ (n : Nat) (y : Option Opd), bound? (σ.see vb vl) n y = bound? σ n y := fun n y => bound_congr fun z _ => see_val _ _ _ _
  simp only [evK, see_val, hx, e, hl, hm]
  rw [if_pos ⟨hlm, hms, hs⟩]
/-- An append to an owned row. -/
theorem op_app {x y : Opd} {sz bytes : Nat} {g : Tag} {r : Nat} {xs ys : List (List PV)} (hx : σ.val x = .tip g r xs) (hy : (σ.val y).src = some ys) (ht : (σ.see vb vl).tl g = some (r, .tip xs.length sz)) (hs : ∀ e ∈ ys, e.length = sz) (hb : (xs.length + ys.length) * bytes ≤ 140737488355328)
    (h : awOps E os R (σ.app dst { v := .tip g r (xs ++ ys), tls := [(g, r, .tip (xs.length + ys.length) sz)] })) : awOps E ({ dst := dst, k := .app x y sz bytes, vb := vb, vl := vl } :: os) R σ := by
  refine op_ev rfl ?_ h
  simp only [evK, see_val, hx, hy, ht]
  rw [if_pos hs, if_pos ⟨trivial, trivial, trivial, hb⟩]
/-- An append to a row that may be written. -/
theorem op_appm {x y : Opd} {sz bytes : Nat} {g : Tag} {r : Nat} {xs ys : List (List PV)} (hx : σ.val x = .mo g r) (hy : (σ.val y).src = some ys) (ht : (σ.see vb vl).tl g = some (r, .mo sz xs)) (hs : ∀ e ∈ ys, e.length = sz) (hb : (xs.length + ys.length) * bytes ≤ 140737488355328)
    (h : awOps E os R (σ.app dst { v := .mo g (r + 1), tls := [(g, r + 1, .mo sz (xs ++ ys))] })) : awOps E ({ dst := dst, k := .app x y sz bytes, vb := vb, vl := vl } :: os) R σ := by
  refine op_ev rfl ?_ h
  simp only [evK, see_val, hx, hy, ht]
  rw [if_pos hs, if_pos ⟨trivial, trivial, hb⟩]
/-- An append to nil. -/
theorem op_app0 {x y : Opd} {sz sz' bytes : Nat} {ys : List (List PV)} (hx : σ.val x = .nil sz') (hy : (σ.val y).src = some ys) (ht : (σ.see vb vl).tl (0, dst.getD 0, 0) = none) (hs : ∀ e ∈ ys, e.length = sz) (hb : ys.length * bytes ≤ 140737488355328)
    (h : awOps E os R (σ.app dst { v := .tip (0, dst.getD 0, 0) 0 ys, tls := [((0, dst.getD 0, 0), 0, .tip ys.length sz)] })) : awOps E ({ dst := dst, k := .app x y sz bytes, vb := vb, vl := vl } :: os) R σ := by
  refine op_ev rfl ?_ h
  simp only [evK, see_val, hx, hy, ht]
  rw [if_pos hs, if_pos ⟨rfl, hb⟩]
/-- Strings are put together. -/
theorem op_cat {x y : Opd} {s t : List UInt8} (hx : σ.val x = .p (.str s)) (hy : σ.val y = .p (.str t)) (hb : s.length + t.length ≤ 9223372036854775807)
    (h : awOps E os R (σ.app dst { v := .p (.str (s ++ t)) })) : awOps E ({ dst := dst, k := .bin .add x y, vb := vb, vl := vl } :: os) R σ := by
  refine op_ev rfl ?_ h
  simp only [evK, see_val, hx, hy, binPV]
  rw [if_pos hb]
  rfl
/-- A row gets the name of the variable that takes it. -/
theorem op_asgo {x : Opd} {g : Tag} {r q sz : Nat} {xs : List (List PV)} (hx : σ.val x = .tip g r xs) (ht : (σ.see vb vl).tl g = some (r, .tip xs.length sz)) (hne : g ≠ (0, dst.getD 0, 0)) (hq : (σ.see vb vl).rev (0, dst.getD 0, 0) = q)
    (h : awOps E os R (σ.app dst { v := .tip (0, dst.getD 0, 0) q xs, tls := [(g, r + 1, .spent), ((0, dst.getD 0, 0), q, .tip xs.length sz)] })) : awOps E ({ dst := dst, k := .asgo x, vb := vb, vl := vl } :: os) R σ := by
  refine op_ev rfl ?_ h
  simp only [evK, see_val, hx, ht, hq]
  rw [if_neg hne, if_pos ⟨trivial, trivial⟩]
/-- A function value is called. -/
theorem op_callv {x : Opd} {args : List Opd} {f : FuncId} {caps : List PV} {as : List OV} {r : RV} {z : Res} (hf : fnOf ((σ.see vb vl).val x) = some (f, caps)) (h1 : argsOf (σ.see vb vl) (args.map fun y => (y, .fz)) = some as) (h2 : E f (as ++ caps.map fun v => .l (.fz v)) r []) (h3 : callRes (σ.see vb vl) (dst.getD 0) [] r [] = some z)
    (h : awOps E os R (σ.app dst z)) : awOps E ({ dst := dst, k := .callv x args, vb := vb, vl := vl } :: os) R σ := by
  show awOp E _ (awOps E os R) σ
  rw [awOp_iff]
  exact ⟨z, ⟨f, caps, as, r, hf, h1, h2, h3⟩, h⟩
end

/-- A loop: the states at its head, told by ι. -/
theorem aw_loop {c : AC} {ι : Type} (S : ι → AS) (μ : ι → Nat) (i : ι) (h0 : Wk np σ (S i)) (h : ∀ i, aw E np c (fun e σ' => match e with
    | .normal => ∃ j, μ j < μ i ∧ Wk np σ' (S j)
    | e => Q e σ') (S i)) : aw E np (.loop c) Q σ := ⟨ι, S, μ, i, h0, h⟩
/-- What a round of a loop is to leave. -/
def LoopK (np : Nat) {ι : Type} (S : ι → AS) (μ : ι → Nat) (i : ι) (Q : AX → AS → Prop) (e : AX) (σ : AS) : Prop := match e with
  | .normal => ∃ j, μ j < μ i ∧ Wk np σ (S j)
  | e => Q e σ
theorem aw_loop' {c : AC} {ι : Type} (S : ι → AS) (μ : ι → Nat) (i : ι) (h0 : Wk np σ (S i)) (h : ∀ i, aw E np c (LoopK np S μ i Q) (S i)) : aw E np (.loop c) Q σ := ⟨ι, S, μ, i, h0, h⟩
theorem loop_n {ι : Type} {S : ι → AS} {μ : ι → Nat} {i : ι} (j : ι) (h1 : μ j < μ i) (h2 : Wk np σ (S j)) : LoopK np S μ i Q .normal σ := ⟨j, h1, h2⟩
theorem loop_r {ι : Type} {S : ι → AS} {μ : ι → Nat} {i : ι} (h : Q .ret σ) : LoopK np S μ i Q .ret σ := h
theorem loop_x {ι : Type} {S : ι → AS} {μ : ι → Nat} {i : ι} {id : Nat} (h : Q (.exit id) σ) : LoopK np S μ i Q (.exit id) σ := h
theorem aw_wk {c : AC} (σ' : AS) (h : Wk np σ σ') (h2 : aw E np c Q σ') : aw E np (.wk c) Q σ := ⟨σ', h, h2⟩
end

/-! ### What is handed over, when it is owned -/

section
variable {σ : AS}
theorem args_nil : argsOf σ [] = some [] := rfl
theorem args_one {x : Opd} {m : Mode} {o : OV} {rest : List (Opd × Mode)} {os : List OV} (h : argOf σ (σ.val x) m = some o) (h2 : argsOf σ rest = some os) : argsOf σ ((x, m) :: rest) = some (o :: os) := by
  simp only [argsOf, h, h2]
theorem leaf_own {v : IV} {g : Tag} {r sz : Nat} {xs : List (List PV)} (hv : v = .tip g r xs) (h : σ.tl g = some (r, .tip xs.length sz)) : v.leaf true σ = some (.ow sz xs) := by
  subst hv
  simp only [IV.leaf, h, if_true]
  rw [if_pos ⟨trivial, trivial⟩]
theorem arg_own {v : IV} {g : Tag} {r sz : Nat} {xs : List (List PV)} (hv : v = .tip g r xs) (h : σ.tl g = some (r, .tip xs.length sz)) : argOf σ v .ow = some (.l (.ow sz xs)) := by
  simp only [argOf, leaf_own hv h, Option.map_some]
theorem arg_nil {v : IV} {sz : Nat} (hv : v = .nil sz) : argOf σ v .ow = some (.l (.ow sz [])) := by
  subst hv
  rfl
theorem leaves_nil : leaves σ [] [] = some [] := rfl
theorem leaves_one {b : Bool} {x : IV} {o : OL} {bs : List Bool} {xs : List IV} {os : List OL} (h : x.leaf b σ = some o) (h2 : leaves σ bs xs = some os) : leaves σ (b :: bs) (x :: xs) = some (o :: os) := by
  simp only [leaves, h, h2]
theorem arg_io {v : IV} {fl : List Bool} {s : Nat} {cs : List IV} {os : List OL} (hv : v = .ptr s 0) (hb : σ.box s = some cs) (h : leaves σ fl cs = some os) : argOf σ v (.io fl) = some (.ptr os) := by
  subst hv
  simp only [argOf, hb, h, Option.map_some]
theorem arg_ag {v : IV} {fl : List Bool} {cs : List IV} {os : List OL} (hv : v.aggs = some cs) (h : leaves σ fl cs = some os) : argOf σ v (.ag fl) = some (.agg os) := by
  simp only [argOf, hv, h, Option.map_some]
theorem arg_mu {v : IV} {g : Tag} {r sz : Nat} {xs : List (List PV)} (hv : v = .mo g r) (h : σ.tl g = some (r, .mo sz xs)) : argOf σ v .mu = some (.l (.mu sz xs)) := by
  subst hv
  simp only [argOf, IV.moLeaf, h, if_true, Option.map_some]
theorem end_nil : endOf σ [] = some ([], []) := rfl
theorem end_one {y : RW} {m : Mode} {x : IV} {o : OV} {rest : List (RW × Mode)} {os : List OV} {ks : List (Nat ⊕ Tag)} (h : rwVal σ y = some x) (h1 : argOf σ x m = some o) (h2 : endOf σ rest = some (os, ks)) : endOf σ ((y, m) :: rest) = some (o :: os, argKeys σ m x ++ ks) := by
  simp only [endOf, h, h1, h2]
theorem endB_of {rs outs : List (RW × Mode)} {os ps : List OV} {ks ls : List (Nat ⊕ Tag)} {r : RV} {ov : List OV} (h1 : endOf σ rs = some (os, ks)) (h2 : endOf σ outs = some (ps, ls)) (hn : (ks ++ ls).Nodup) (hr : mkRV os = r) (ho : ps = ov) : endB σ rs outs = some (r, ov) := by
  subst hr
  subst ho
  simp only [endB, h1, h2]
  rw [if_pos hn]
end

/-! ### Ways that meet -/

section
variable {E : FuncId → List OV → RV → List OV → Prop} {np : Nat}
theorem awOps_mono {R R' : AS → Prop} (h : ∀ σ, R σ → R' σ) : ∀ {os : List AO} {σ : AS}, awOps E os R σ → awOps E os R' σ
  | [], σ, hs => h σ hs
  | o :: os, σ, hs => awOp_mono E hs fun σ' hs' => awOps_mono h hs'
theorem aw_mono : ∀ (c : AC) {Q Q' : AX → AS → Prop} {σ : AS}, (∀ e σ, Q e σ → Q' e σ) → aw E np c Q σ → aw E np c Q' σ
  | .skip, Q, Q', σ, h, hs => h _ _ hs
  | .bad, Q, Q', σ, h, hs => hs.elim
  | .reg dr ops, Q, Q', σ, h, hs => awOps_mono (R := Q .normal) (R' := Q' .normal) (fun σ hs => h _ _ hs) hs
  | .seq a b, Q, Q', σ, h, hs => aw_mono a (Q := SeqK E np b Q) (Q' := SeqK E np b Q') (fun e σ' hs' => by
      cases e with
      | normal => exact aw_mono b h hs'
      | exit i => exact h _ _ hs'
      | ret => exact h _ _ hs') hs
  | .cond x a b, Q, Q', σ, h, hs => by
    simp only [aw] at hs ⊢
    split at hs
    · rename_i t ht
      cases t
      · exact aw_mono b h hs
      · exact aw_mono a h hs
    · exact hs.elim
  | .block id a, Q, Q', σ, h, hs => aw_mono a (Q := BlkK id Q) (Q' := BlkK id Q') (fun e σ' hs' => by
      cases e with
      | normal => exact h _ _ hs'
      | exit i =>
        by_cases e : i = id
        · subst e
          have h2 : Q .normal σ' := by
            have h3 : (if i = i then Q .normal σ' else Q (.exit i) σ') := hs'
            rwa [if_pos rfl] at h3
          exact blk_x (h _ _ h2)
        · have h2 : Q (.exit i) σ' := by
            have h3 : (if i = id then Q .normal σ' else Q (.exit i) σ') := hs'
            rwa [if_neg e] at h3
          exact blk_o e (h _ _ h2)
      | ret => exact h _ _ hs') hs
  | .loop a, Q, Q', σ, h, hs => by
    obtain ⟨ι, S, μ, i, h0, h1⟩ := hs
    exact ⟨ι, S, μ, i, h0, fun i => aw_mono a (Q := LoopK np S μ i Q) (Q' := LoopK np S μ i Q') (fun e σ' hs' => by
      cases e with
      | normal => exact hs'
      | exit i => exact h _ _ hs'
      | ret => exact h _ _ hs') (h1 i)⟩
  | .wk a, Q, Q', σ, h, hs => by
    obtain ⟨σ', h1, h2⟩ := hs
    exact ⟨σ', h1, aw_mono a h h2⟩
  | .exit id, Q, Q', σ, h, hs => h _ _ hs
  | .ret, Q, Q', σ, h, hs => h _ _ hs

/-- Where ways meet: the states there, told by ι. -/
def JoinK (np : Nat) {ι : Type} (S : ι → AS) (Q : AX → AS → Prop) (e : AX) (σ : AS) : Prop := match e with
  | .normal => ∃ i, Wk np σ (S i)
  | e => Q e σ
theorem aw_join {a b : AC} {Q : AX → AS → Prop} {σ : AS} {ι : Type} (S : ι → AS) (hb : ∀ i, aw E np b Q (S i)) (ha : aw E np a (JoinK np S Q) σ) : aw E np (.seq a (.wk b)) Q σ :=
  aw_mono a (Q := JoinK np S Q) (Q' := SeqK E np (.wk b) Q) (fun e σ' hs => by
    cases e with
    | normal =>
      obtain ⟨i, hi⟩ := hs
      exact ⟨S i, hi, hb i⟩
    | exit i => exact hs
    | ret => exact hs) ha
theorem join_n {ι : Type} {S : ι → AS} {Q : AX → AS → Prop} {σ : AS} (i : ι) (h : Wk np σ (S i)) : JoinK np S Q .normal σ := ⟨i, h⟩
theorem join_r {ι : Type} {S : ι → AS} {Q : AX → AS → Prop} {σ : AS} (h : Q .ret σ) : JoinK np S Q .ret σ := h
theorem join_x {ι : Type} {S : ι → AS} {Q : AX → AS → Prop} {σ : AS} {id : Nat} (h : Q (.exit id) σ) : JoinK np S Q (.exit id) σ := h
end

end Go.Proofs.Ytfhgjhchjekbgaa
set_option linter.unusedVariables false
set_option linter.unusedSimpArgs false
namespace Go.Proofs.Ytfhgjhchjekbgaa
open Go

section
variable {E : FuncId → List OV → RV → List OV → Prop} {np : Nat}

theorem awOps_det : ∀ {os : List AO} {R : AS → Prop} {σ : AS}, awOps E os R σ → ∃ σ', R σ' ∧ ∀ R' : AS → Prop, R' σ' → awOps E os R' σ
  | [], R, σ, h => ⟨σ, h, fun _ h => h⟩
  | o :: os, R, σ, h => by
    have h' : awOp E o (awOps E os R) σ := h
    rw [awOp_iff] at h'
    obtain ⟨x, h1, h2⟩ := h'
    obtain ⟨σ', h3, h4⟩ := awOps_det h2
    refine ⟨σ', h3, fun R' hR => ?_⟩
    show awOp E o (awOps E os R') σ
    rw [awOp_iff]
    exact ⟨x, h1, h4 R' hR⟩

theorem aw_det : ∀ (c : AC) {Q : AX → AS → Prop} {σ : AS}, aw E np c Q σ → ∃ e σ', Q e σ' ∧ ∀ Q' : AX → AS → Prop, Q' e σ' → aw E np c Q' σ
  | .skip, Q, σ, h => ⟨.normal, σ, h, fun _ h => h⟩
  | .bad, Q, σ, h => h.elim
  | .exit i, Q, σ, h => ⟨.exit i, σ, h, fun _ h => h⟩
  | .ret, Q, σ, h => ⟨.ret, σ, h, fun _ h => h⟩
  | .reg dr ops, Q, σ, h => by
    obtain ⟨σ', h1, h2⟩ := awOps_det (R := Q .normal) h
    exact ⟨.normal, σ', h1, fun Q' h => h2 (Q' .normal) h⟩
  | .seq a b, Q, σ, h => by
    obtain ⟨e, σ1, h1, h2⟩ := aw_det a (Q := SeqK E np b Q) h
    cases e with
    | normal =>
      obtain ⟨e, σ2, h3, h4⟩ := aw_det b (Q := Q) h1
      exact ⟨e, σ2, h3, fun Q' hq => aw_seq (h2 (SeqK E np b Q') (seq_n (h4 Q' hq)))⟩
    | exit i => exact ⟨.exit i, σ1, h1, fun Q' hq => aw_seq (h2 (SeqK E np b Q') (seq_x hq))⟩
    | ret => exact ⟨.ret, σ1, h1, fun Q' hq => aw_seq (h2 (SeqK E np b Q') (seq_r hq))⟩
  | .cond x a b, Q, σ, h => by
    simp only [aw] at h ⊢
    split at h
    · rename_i t ht
      cases t
      · exact aw_det b h
      · exact aw_det a h
    · exact h.elim
  | .block id a, Q, σ, h => by
    obtain ⟨e, σ1, h1, h2⟩ := aw_det a (Q := BlkK id Q) h
    cases e with
    | normal => exact ⟨.normal, σ1, h1, fun Q' hq => aw_blk (h2 (BlkK id Q') (blk_n hq))⟩
    | ret => exact ⟨.ret, σ1, h1, fun Q' hq => aw_blk (h2 (BlkK id Q') (blk_r hq))⟩
    | exit i =>
      by_cases e : i = id
      · subst e
        have h3 : (if i = i then Q .normal σ1 else Q (.exit i) σ1) := h1
        rw [if_pos rfl] at h3
        exact ⟨.normal, σ1, h3, fun Q' hq => aw_blk (h2 (BlkK i Q') (blk_x hq))⟩
      · have h3 : (if i = id then Q .normal σ1 else Q (.exit i) σ1) := h1
        rw [if_neg e] at h3
        exact ⟨.exit i, σ1, h3, fun Q' hq => aw_blk (h2 (BlkK id Q') (blk_o e hq))⟩
  | .wk a, Q, σ, h => by
    obtain ⟨σ', h1, h2⟩ := h
    obtain ⟨e, σ2, h3, h4⟩ := aw_det a h2
    exact ⟨e, σ2, h3, fun Q' hq => ⟨σ', h1, h4 Q' hq⟩⟩
  | .loop a, Q, σ, h => by
    obtain ⟨ι, S, μ, i, h0, hs⟩ := h
    have key : ∀ (n : Nat) (i : ι), μ i = n → ∃ e σ', Q e σ' ∧ ∀ Q' : AX → AS → Prop, Q' e σ' → ∃ (ι' : Type) (S' : ι' → AS) (μ' : ι' → Nat) (i' : ι'), S' i' = S i ∧ ∀ x, aw E np a (LoopK np S' μ' x Q') (S' x) := by
      intro n
      induction n using Nat.strongRecOn with
      | ind n ih =>
        intro i hn
        obtain ⟨e, σ1, h1, h2⟩ := aw_det a (Q := LoopK np S μ i Q) (hs i)
        cases e with
        | normal =>
          obtain ⟨j, hj, hw⟩ := h1
          obtain ⟨e, σ', h3, h4⟩ := ih (μ j) (by omega) j rfl
          refine ⟨e, σ', h3, fun Q' hq => ?_⟩
          obtain ⟨ι', S', μ', i', h5, h6⟩ := h4 Q' hq
          let S2 : Option ι' → AS := fun x => match x with
            | none => S i
            | some y => S' y
          let μ2 : Option ι' → Nat := fun x => match x with
            | none => μ' i' + 1
            | some y => μ' y
          refine ⟨Option ι', S2, μ2, none, rfl, fun x => ?_⟩
          cases x with
          | none => exact h2 _ ⟨some i', Nat.lt_succ_self _, by
              show Wk np σ1 (S' i')
              rw [h5]
              exact hw⟩
          | some y => exact aw_mono a (Q := LoopK np S' μ' y Q') (Q' := LoopK np S2 μ2 (some y) Q') (fun e σ hs => by
              cases e with
              | normal =>
                obtain ⟨z, h7, h8⟩ := hs
                exact ⟨some z, h7, h8⟩
              | exit i => exact hs
              | ret => exact hs) (h6 y)
        | exit k => exact ⟨.exit k, σ1, h1, fun Q' hq => ⟨Unit, fun _ => S i, fun _ => 0, (), rfl, fun _ => h2 _ (loop_x hq)⟩⟩
        | ret => exact ⟨.ret, σ1, h1, fun Q' hq => ⟨Unit, fun _ => S i, fun _ => 0, (), rfl, fun _ => h2 _ (loop_r hq)⟩⟩
    obtain ⟨e, σ', h1, h2⟩ := key _ i rfl
    refine ⟨e, σ', h1, fun Q' hq => ?_⟩
    obtain ⟨ι', S', μ', i', h3, h4⟩ := h2 Q' hq
    exact ⟨ι', S', μ', i', by rw [h3]; exact h0, h4⟩
end

/-- What a body is to leave, told by a property. -/
def EndsP {R : Type} (rs outs : List (RW × Mode)) (encR : R → RV) (encO : R → List OV) (post : R → Prop) (e : AX) (σ : AS) : Prop :=
  match e with
  | .exit _ => False
  | _ => ∃ r : R, post r ∧ endB σ rs outs = some (encR r, encO r)

theorem evx_of {R : Type} {P : Program} {f : FuncId} {fn : Func} {ac : AC} {os : List OV} {encR : R → RV} {encO : R → List OV} {post : R → Prop} (np : Nat) (rs : List (RW × Mode)) (ms : List Mode) (hf : P.funcs[f]? = some fn) (hk : fnOK P np fn ac rs = true) (hn : os.length = np) (hms : modesOK os ms = true)
    (hs : aw (Ev P) np ac (EndsP rs (outsOf 0 os ms) encR encO post) (argsS 0 os .empty)) : ∃ r, post r ∧ Ev P f os (encR r) (encO r) := by
  obtain ⟨e, σ', h1, h2⟩ := aw_det ac hs
  cases e with
  | exit i => exact h1.elim
  | normal =>
    obtain ⟨r, h3, h4⟩ := h1
    exact ⟨r, h3, ev_of np rs ms hf hk hn hms (h2 (Ends rs (outsOf 0 os ms) (encR r) (encO r)) h4)⟩
  | ret =>
    obtain ⟨r, h3, h4⟩ := h1
    exact ⟨r, h3, ev_of np rs ms hf hk hn hms (h2 (Ends rs (outsOf 0 os ms) (encR r) (encO r)) h4)⟩

theorem endp_ret {R : Type} {rs outs : List (RW × Mode)} {encR : R → RV} {encO : R → List OV} {post : R → Prop} {σ : AS} (r : R) (h : post r) (he : endB σ rs outs = some (encR r, encO r)) : EndsP rs outs encR encO post .ret σ := ⟨r, h, he⟩
theorem endp_nor {R : Type} {rs outs : List (RW × Mode)} {encR : R → RV} {encO : R → List OV} {post : R → Prop} {σ : AS} (r : R) (h : post r) (he : endB σ rs outs = some (encR r, encO r)) : EndsP rs outs encR encO post .normal σ := ⟨r, h, he⟩

/-- Where ways meet, as it is told. -/
def JOIN {τ : Type} (A : (τ → Prop) → Prop) (B : τ → Prop) : Prop := ∃ J : τ → Prop, (∀ t, J t → B t) ∧ A J
/-- A loop, as it is told: what holds at its head, and what goes down. -/
def LOOP {σ : Type} (body : (σ → Prop) → σ → Prop) (s : σ) : Prop := ∃ (I : σ → Prop) (μ : σ → Nat), I s ∧ ∀ s, I s → body (fun s' => I s' ∧ μ s' < μ s) s
theorem JOIN.of {τ : Type} {A : (τ → Prop) → Prop} {B : τ → Prop} (h : A B) : JOIN A B := ⟨B, fun _ h => h, h⟩
/-- The element at an index. -/
def GETI {α : Type} (xs : List α) (i : Int) (u : α) : Prop := 0 ≤ i ∧ xs[i.toNat]? = some u

end Go.Proofs.Ytfhgjhchjekbgaa
set_option linter.unusedVariables false
set_option linter.unusedSimpArgs false
namespace Go.Proofs.Ytfhgjhchjekbgaa
open Go

abbrev Str := List UInt8

/-- e reads a list as rows of cells, each by c, of n cells. -/
class EncF {α : Type} (e : List α → List (List PV)) (c : outParam (α → List PV)) (n : outParam Nat) : Prop where
  mk ::
  eq : ∀ xs, e xs = xs.map c
  len : ∀ x, (c x).length = n

section
variable {α : Type} {e : List α → List (List PV)} {c : α → List PV} {n : Nat} [i : EncF e c n]
include i
theorem enc_get {xs : List α} {k : Nat} {u : α} (h : xs[k]? = some u) : (e xs)[k]? = some (c u) := by
  rw [i.eq, List.getElem?_map, h]
  rfl
theorem enc_len (xs : List α) : (e xs).length = xs.length := by rw [i.eq, List.length_map]
theorem enc_len' {xs : List α} {m : Nat} (h : xs.length = m) : (e xs).length = m := by rw [enc_len, h]
theorem enc_app (xs ys : List α) : e xs ++ e ys = e (xs ++ ys) := by simp only [i.eq, List.map_append]
theorem enc_sz (xs : List α) : ∀ z ∈ e xs, z.length = n := by
  rw [i.eq]
  intro z hz
  rw [List.mem_map] at hz
  obtain ⟨x, _, rfl⟩ := hz
  exact i.len x
theorem enc_sub (xs : List α) (l m : Nat) : ((e xs).take m).drop l = e ((xs.take m).drop l) := by simp only [i.eq, List.map_take, List.map_drop]
theorem enc_nil : [] = e [] := by rw [i.eq]; rfl
theorem enc_cons (x : α) {ys : List (List PV)} {xs : List α} (h : ys = e xs) : c x :: ys = e (x :: xs) := by
  rw [h, i.eq, i.eq]
  rfl
theorem enc_set (xs : List α) (k : Nat) (u : α) : (e xs).set k (c u) = e (xs.set k u) := by simp only [i.eq, List.map_set]
theorem enc_rep (k : Nat) (u : α) : List.replicate k (c u) = e (List.replicate k u) := by simp only [i.eq, List.map_replicate]
end

def c_i64 (x : Int) : List PV := [.int .i64 x]
def c_u8 (x : Int) : List PV := [.int .u8 x]
def c_str (x : Str) : List PV := [.str x]
def c_bool (x : Bool) : List PV := [.bool x]
def e_i64 (xs : List Int) : List (List PV) := xs.map c_i64
def e_u8 (xs : List Int) : List (List PV) := xs.map c_u8
def e_str (xs : List Str) : List (List PV) := xs.map c_str
def e_bool (xs : List Bool) : List (List PV) := xs.map c_bool
instance : EncF e_i64 c_i64 1 := ⟨fun _ => rfl, fun _ => rfl⟩
instance : EncF e_u8 c_u8 1 := ⟨fun _ => rfl, fun _ => rfl⟩
instance : EncF e_str c_str 1 := ⟨fun _ => rfl, fun _ => rfl⟩
instance : EncF e_bool c_bool 1 := ⟨fun _ => rfl, fun _ => rfl⟩

/-- A text's bytes as numbers, and back. -/
def strB (s : Str) : List Int := s.map fun b => (b.toNat : Int)
def bytesS (xs : List Int) : Str := xs.map fun n => n.toNat.toUInt8
theorem bytesOf_eq (s : Str) : bytesOf s = e_u8 (strB s) := by
  simp only [bytesOf, e_u8, strB, List.map_map]
  rfl
theorem toBytes_eq (xs : List Int) : toBytes (e_u8 xs) = some (bytesS xs) := by
  induction xs with
  | nil => rfl
  | cons x xs ih =>
    show (toBytes (e_u8 xs)).map _ = _
    rw [ih]
    rfl

/-- A part of n places, from lo up to hi. -/
def SUB (n lo hi : Int) : Prop := 0 ≤ lo ∧ lo ≤ hi ∧ hi ≤ n
theorem SUB.a {n lo hi : Int} (h : SUB n lo hi) : 0 ≤ lo := h.1
theorem SUB.b {n lo hi : Int} (h : SUB n lo hi) : 0 ≤ hi := Int.le_trans h.1 h.2.1
theorem SUB.c {n lo hi : Int} (h : SUB n lo hi) : lo.toNat ≤ hi.toNat := by
  have := h.1
  have := h.2.1
  omega
theorem SUB.d {n : Nat} {lo hi : Int} (h : SUB n lo hi) : hi.toNat ≤ n := by
  have := h.2.2
  omega

section
variable {E : FuncId → List OV → RV → List OV → Prop} {np : Nat} {Q : AX → AS → Prop} {R : AS → Prop} {σ : AS}
variable {dst : Option Nat} {vb vl : Vis} {os : List AO}

theorem bound_some {x : Opd} {n : Nat} {i : Int} (hx : (σ.val x).int? = some i) (h0 : 0 ≤ i) : bound? σ n (some x) = some i.toNat := by
  simp only [bound?, hx, h0, if_true]

theorem op_len {x : Opd} {xs : List (List PV)} {m : Nat} (hx : (σ.val x).elems = some xs) (hm : xs.length = m)
    (h : awOps E os R (σ.app dst { v := .p (.int .i64 m) })) : awOps E ({ dst := dst, k := .len x, vb := vb, vl := vl } :: os) R σ := by
  subst hm
  refine op_ev rfl ?_ h
  simp only [evK, see_val, hx, Option.map_some]
/-- A slice is written out. -/
theorem op_bst {sz : Nat} {xs : List Opd} {es zs : List (List PV)} (hx : elemsOf (σ.see vb vl) sz xs = some es) (hn : ((σ.see vb vl).tl (0, dst.getD 0, 0)).isNone = true) (he : es = zs)
    (h : awOps E os R (σ.app dst { v := .tip (0, dst.getD 0, 0) 0 zs, tls := [((0, dst.getD 0, 0), 0, .tip zs.length sz)] })) : awOps E ({ dst := dst, k := .bs sz xs, vb := vb, vl := vl } :: os) R σ := by
  subst he
  refine op_ev rfl ?_ h
  simp only [evK, hx, hn, if_true]
theorem op_appt {x y : Opd} {sz bytes : Nat} {g : Tag} {r : Nat} {xs ys zs : List (List PV)} {a b : Nat} (hx : σ.val x = .tip g r xs) (hy : (σ.val y).src = some ys) (ht : (σ.see vb vl).tl g = some (r, .tip xs.length sz)) (hs : ∀ e ∈ ys, e.length = sz)
    (ha : xs.length = a) (hb : ys.length = b) (hab : (a + b) * bytes ≤ 140737488355328) (he : xs ++ ys = zs)
    (h : awOps E os R (σ.app dst { v := .tip g r zs, tls := [(g, r, .tip zs.length sz)] })) : awOps E ({ dst := dst, k := .app x y sz bytes, vb := vb, vl := vl } :: os) R σ := by
  subst ha
  subst hb
  refine op_app hx hy ht hs hab ?_
  rw [he, show xs.length + ys.length = zs.length by rw [← he, List.length_append]]
  exact h
theorem op_app0t {x y : Opd} {sz sz' bytes : Nat} {ys : List (List PV)} {b : Nat} (hx : σ.val x = .nil sz') (hy : (σ.val y).src = some ys) (ht : (σ.see vb vl).tl (0, dst.getD 0, 0) = none) (hs : ∀ e ∈ ys, e.length = sz) (hb : ys.length = b) (hab : b * bytes ≤ 140737488355328)
    (h : awOps E os R (σ.app dst { v := .tip (0, dst.getD 0, 0) 0 ys, tls := [((0, dst.getD 0, 0), 0, .tip ys.length sz)] })) : awOps E ({ dst := dst, k := .app x y sz bytes, vb := vb, vl := vl } :: os) R σ := by
  subst hb
  exact op_app0 hx hy ht hs hab h
theorem op_appmt {x y : Opd} {sz bytes : Nat} {g : Tag} {r : Nat} {xs ys zs : List (List PV)} {a b : Nat} (hx : σ.val x = .mo g r) (hy : (σ.val y).src = some ys) (ht : (σ.see vb vl).tl g = some (r, .mo sz xs)) (hs : ∀ e ∈ ys, e.length = sz)
    (ha : xs.length = a) (hb : ys.length = b) (hab : (a + b) * bytes ≤ 140737488355328) (he : xs ++ ys = zs)
    (h : awOps E os R (σ.app dst { v := .mo g (r + 1), tls := [(g, r + 1, .mo sz zs)] })) : awOps E ({ dst := dst, k := .app x y sz bytes, vb := vb, vl := vl } :: os) R σ := by
  subst ha
  subst hb
  refine op_appm hx hy ht hs hab ?_
  rw [he]
  exact h
theorem op_slt {x : Opd} {lo hi : Option Opd} {sz : Nat} {s zs : List (List PV)} {l m n : Nat} (hx : (σ.val x).elems = some s) (hn : s.length = n) (hl : bound? σ 0 lo = some l) (hm : bound? σ n hi = some m) (hlm : l ≤ m) (hms : m ≤ n) (hs : ∀ e ∈ s, e.length = sz) (he : (s.take m).drop l = zs)
    (h : awOps E os R (σ.app dst { v := .p (.slice zs) })) : awOps E ({ dst := dst, k := .sl x lo hi sz, vb := vb, vl := vl } :: os) R σ := by
  subst hn
  refine op_sl hx hl hm hlm hms hs ?_
  rw [he]
  exact h
theorem op_cvs {x : Opd} {xs : List (List PV)} {s : Str} (hx : (σ.val x).elems = some xs) (hs : toBytes xs = some s)
    (h : awOps E os R (σ.app dst { v := .p (.str s) })) : awOps E ({ dst := dst, k := .cvs x, vb := vb, vl := vl } :: os) R σ := by
  refine op_ev rfl ?_ h
  simp only [evK, see_val, hx, hs, Option.map_some]
/-- What is left, what goes in, when a number is divided. -/
theorem op_rem {x y : Opd} {k : IntKind} {a b : Int} (hx : σ.val x = .p (.int k a)) (hy : σ.val y = .p (.int k b)) (hb : b ≠ 0)
    (h : awOps E os R (σ.app dst { v := .p (.int k (a.tmod b)) })) : awOps E ({ dst := dst, k := .bin .rem x y, vb := vb, vl := vl } :: os) R σ := by
  refine op_ev rfl ?_ h
  simp only [evK, see_val, hx, hy, binPV, if_true, cmpInt, arith, hb, if_false, Option.map_some]
theorem op_quo {x y : Opd} {k : IntKind} {a b : Int} (hx : σ.val x = .p (.int k a)) (hy : σ.val y = .p (.int k b)) (hb : b ≠ 0)
    (h : awOps E os R (σ.app dst { v := .p (.int k (k.wrap (a.tdiv b))) })) : awOps E ({ dst := dst, k := .bin .quo x y, vb := vb, vl := vl } :: os) R σ := by
  refine op_ev rfl ?_ h
  simp only [evK, see_val, hx, hy, binPV, if_true, cmpInt, arith, hb, if_false, Option.map_some]
end

end Go.Proofs.Ytfhgjhchjekbgaa
set_option linter.unusedVariables false
set_option linter.unusedSimpArgs false
namespace Go.Proofs.Ytfhgjhchjekbgaa
open Go

abbrev pI (x : Int) : IV := .p (.int .i64 x)
abbrev pB (x : Bool) : IV := .p (.bool x)
abbrev pS (x : Str) : IV := .p (.str x)
abbrev pL (x : List (List PV)) : IV := .p (.slice x)

section
variable {E : FuncId → List OV → RV → List OV → Prop} {np : Nat} {Q : AX → AS → Prop} {R : AS → Prop}
variable {ts : List (Nat × IV)} {bs : List (Nat × List IV)} {ls : List (Tag × Nat × RK)}
variable {d : Nat} {vb vl : Vis} {os : List AO}

theorem s_reg {dr : Bool} {ops : List AO} (h : awOps E ops (Q .normal) (St (killTs (newsOf ops) ts) (killBs (newsOf ops) bs) (killLs (newsOf ops) ls))) : aw E np (.reg dr ops) Q (St ts bs ls) := by
  refine aw_reg ?_
  rw [St_kill]
  exact h
/-- n plain operations: what they add to the state. -/
theorem s_run (n : Nat) (dT : List (Nat × IV)) (dB : List (Nat × List IV)) (dL : List (Tag × Nat × RK)) {os' : List AO} (h : runOps n os (St ts bs ls) = some (os', St (dT ++ ts) (dB ++ bs) (dL ++ ls))) (h2 : awOps E os' R (St (dT ++ ts) (dB ++ bs) (dL ++ ls))) : awOps E os R (St ts bs ls) :=
  ops_run n h h2
theorem s_op_if {o : AO} {t : Nat} {want b : Bool} (hg : o.g = some (t, want)) (hb : getT ts t = .p (.bool b)) (h1 : b = true → awOps E (o :: os) R (St ((t, .p (.bool true)) :: ts) bs ls)) (h2 : b = false → awOps E (o :: os) R (St ((t, .p (.bool false)) :: ts) bs ls)) : awOps E (o :: os) R (St ts bs ls) :=
  op_if hg hb h1 h2
theorem s_if {t : Nat} {a b : AC} {c : Bool} (hb : getT ts t = .p (.bool c)) (h1 : c = true → aw E np a Q (St ((t, .p (.bool true)) :: ts) bs ls)) (h2 : c = false → aw E np b Q (St ((t, .p (.bool false)) :: ts) bs ls)) : aw E np (.cond (.t t) a b) Q (St ts bs ls) :=
  aw_if hb h1 h2
theorem s_yes {t : Nat} {a b : AC} (hb : getT ts t = .p (.bool true)) (h1 : aw E np a Q (St ts bs ls)) : aw E np (.cond (.t t) a b) Q (St ts bs ls) := aw_yes hb h1
theorem s_no {t : Nat} {a b : AC} (hb : getT ts t = .p (.bool false)) (h1 : aw E np b Q (St ts bs ls)) : aw E np (.cond (.t t) a b) Q (St ts bs ls) := aw_no hb h1
theorem s_on {dst : Option Nat} {k : AK} {t : Nat} {want : Bool} (hb : getT ts t = .p (.bool want)) (h : awOps E ({ dst := dst, k := k, vb := vb, vl := vl } :: os) R (St ts bs ls)) : awOps E ({ dst := dst, k := k, g := some (t, want), vb := vb, vl := vl } :: os) R (St ts bs ls) :=
  op_on hb h
theorem s_ia {x i : Opd} {sz : Nat} {xs : List (List PV)} {n : Int} {e : List PV} (hx : ((St ts bs ls).val x).elems = some xs) (hi : ((St ts bs ls).val i).int? = some n) (h0 : 0 ≤ n) (he : xs[n.toNat]? = some e) (hs : e.length = sz)
    (h : awOps E os R (St ((d, .p (.cptr e)) :: ts) bs ls)) : awOps E ({ dst := some d, k := .ia x i sz, vb := vb, vl := vl } :: os) R (St ts bs ls) := op_ia hx hi h0 he hs h
theorem s_ix {x i : Opd} {s : List UInt8} {n : Int} {b : UInt8} (hx : (St ts bs ls).val x = .p (.str s)) (hi : ((St ts bs ls).val i).int? = some n) (h0 : 0 ≤ n) (hb : s[n.toNat]? = some b)
    (h : awOps E os R (St ((d, .p (.int .u8 b.toNat)) :: ts) bs ls)) : awOps E ({ dst := some d, k := .ix x i, vb := vb, vl := vl } :: os) R (St ts bs ls) := op_ix hx hi h0 hb h
theorem s_ss {x : Opd} {lo hi : Option Opd} {s : List UInt8} {l m : Nat} (hx : (St ts bs ls).val x = .p (.str s)) (hl : bound? (St ts bs ls) 0 lo = some l) (hm : bound? (St ts bs ls) s.length hi = some m) (hlm : l ≤ m) (hms : m ≤ s.length)
    (h : awOps E os R (St ((d, .p (.str ((s.take m).drop l))) :: ts) bs ls)) : awOps E ({ dst := some d, k := .ss x lo hi, vb := vb, vl := vl } :: os) R (St ts bs ls) := op_ss hx hl hm hlm hms h
theorem s_sl {x : Opd} {lo hi : Option Opd} {sz : Nat} {s zs : List (List PV)} {l m n : Nat} (hx : ((St ts bs ls).val x).elems = some s) (hn : s.length = n) (hl : bound? (St ts bs ls) 0 lo = some l) (hm : bound? (St ts bs ls) n hi = some m) (hlm : l ≤ m) (hms : m ≤ n) (hs : ∀ e ∈ s, e.length = sz) (he : (s.take m).drop l = zs)
    (h : awOps E os R (St ((d, .p (.slice zs)) :: ts) bs ls)) : awOps E ({ dst := some d, k := .sl x lo hi sz, vb := vb, vl := vl } :: os) R (St ts bs ls) := op_slt hx hn hl hm hlm hms hs he h
theorem s_len {x : Opd} {xs : List (List PV)} {m : Nat} (hx : ((St ts bs ls).val x).elems = some xs) (hm : xs.length = m)
    (h : awOps E os R (St ((d, .p (.int .i64 m)) :: ts) bs ls)) : awOps E ({ dst := some d, k := .len x, vb := vb, vl := vl } :: os) R (St ts bs ls) := op_len hx hm h
theorem s_bs {sz : Nat} {xs : List Opd} {es zs : List (List PV)} (hx : elemsOf (St ts bs ls) sz xs = some es) (hn : (((St ts bs ls).see vb vl).tl (0, d, 0)).isNone = true) (he : es = zs)
    (h : awOps E os R (St ((d, .tip (0, d, 0) 0 zs) :: ts) bs (((0, d, 0), 0, .tip zs.length sz) :: ls))) : awOps E ({ dst := some d, k := .bs sz xs, vb := vb, vl := vl } :: os) R (St ts bs ls) := by
  refine op_bst ?_ hn he h
  have : ∀ (xs : List Opd), elemsOf ((St ts bs ls).see vb vl) sz xs = elemsOf (St ts bs ls) sz xs := by
    intro xs
    induction xs with
    | nil => rfl
    | cons x xs ih => simp only [elemsOf, see_val, ih]
  rw [this]
  exact hx
theorem s_app {x y : Opd} {sz bytes : Nat} {g : Tag} {r : Nat} {xs ys zs : List (List PV)} {a b : Nat} (hx : (St ts bs ls).val x = .tip g r xs) (hy : ((St ts bs ls).val y).src = some ys) (ht : ((St ts bs ls).see vb vl).tl g = some (r, .tip xs.length sz)) (hs : ∀ e ∈ ys, e.length = sz)
    (ha : xs.length = a) (hb : ys.length = b) (hab : (a + b) * bytes ≤ 140737488355328) (he : xs ++ ys = zs)
    (h : awOps E os R (St ((d, .tip g r zs) :: ts) bs ((g, r, .tip zs.length sz) :: ls))) : awOps E ({ dst := some d, k := .app x y sz bytes, vb := vb, vl := vl } :: os) R (St ts bs ls) := op_appt hx hy ht hs ha hb hab he h
theorem s_app0 {x y : Opd} {sz sz' bytes : Nat} {ys : List (List PV)} {b : Nat} (hx : (St ts bs ls).val x = .nil sz') (hy : ((St ts bs ls).val y).src = some ys) (ht : ((St ts bs ls).see vb vl).tl (0, d, 0) = none) (hs : ∀ e ∈ ys, e.length = sz) (hb : ys.length = b) (hab : b * bytes ≤ 140737488355328)
    (h : awOps E os R (St ((d, .tip (0, d, 0) 0 ys) :: ts) bs (((0, d, 0), 0, .tip ys.length sz) :: ls))) : awOps E ({ dst := some d, k := .app x y sz bytes, vb := vb, vl := vl } :: os) R (St ts bs ls) := op_app0t (dst := some d) hx hy ht hs hb hab h
theorem s_cat {x y : Opd} {s t : List UInt8} (hx : (St ts bs ls).val x = .p (.str s)) (hy : (St ts bs ls).val y = .p (.str t)) (hb : s.length + t.length ≤ 9223372036854775807)
    (h : awOps E os R (St ((d, .p (.str (s ++ t))) :: ts) bs ls)) : awOps E ({ dst := some d, k := .bin .add x y, vb := vb, vl := vl } :: os) R (St ts bs ls) := op_cat hx hy hb h
theorem s_asgo {x : Opd} {g : Tag} {r q sz : Nat} {xs : List (List PV)} (hx : (St ts bs ls).val x = .tip g r xs) (ht : ((St ts bs ls).see vb vl).tl g = some (r, .tip xs.length sz)) (hne : g ≠ (0, d, 0)) (hq : ((St ts bs ls).see vb vl).rev (0, d, 0) = q)
    (h : awOps E os R (St ((d, .tip (0, d, 0) q xs) :: ts) bs (((0, d, 0), q, .tip xs.length sz) :: (g, r + 1, .spent) :: ls))) : awOps E ({ dst := some d, k := .asgo x, vb := vb, vl := vl } :: os) R (St ts bs ls) := op_asgo hx ht hne hq h
theorem s_cvs {x : Opd} {xs : List (List PV)} {s : Str} (hx : ((St ts bs ls).val x).elems = some xs) (hs : toBytes xs = some s)
    (h : awOps E os R (St ((d, .p (.str s)) :: ts) bs ls)) : awOps E ({ dst := some d, k := .cvs x, vb := vb, vl := vl } :: os) R (St ts bs ls) := op_cvs hx hs h
theorem s_rem {x y : Opd} {k : IntKind} {a b : Int} (hx : (St ts bs ls).val x = .p (.int k a)) (hy : (St ts bs ls).val y = .p (.int k b)) (hb : b ≠ 0)
    (h : awOps E os R (St ((d, .p (.int k (a.tmod b))) :: ts) bs ls)) : awOps E ({ dst := some d, k := .bin .rem x y, vb := vb, vl := vl } :: os) R (St ts bs ls) := op_rem hx hy hb h
theorem s_quo {x y : Opd} {k : IntKind} {a b : Int} (hx : (St ts bs ls).val x = .p (.int k a)) (hy : (St ts bs ls).val y = .p (.int k b)) (hb : b ≠ 0)
    (h : awOps E os R (St ((d, .p (.int k (k.wrap (a.tdiv b)))) :: ts) bs ls)) : awOps E ({ dst := some d, k := .bin .quo x y, vb := vb, vl := vl } :: os) R (St ts bs ls) := op_quo hx hy hb h
/-- A call: what it leaves is told. -/
theorem s_call {f : FuncId} {args : List (Opd × Mode)} {as outs : List OV} {r : RV} (v : IV) (bx : List (Nat × List IV)) (tls : List (Tag × Nat × RK))
    (h1 : argsOf ((St ts bs ls).see vb vl) args = some as) (h2 : E f as r outs) (h3 : callRes ((St ts bs ls).see vb vl) d args r outs = some { v := v, bx := bx, tls := tls })
    (h : awOps E os R (St ((d, v) :: ts) (bx.reverse ++ bs) (tls.reverse ++ ls))) : awOps E ({ dst := some d, k := .call f args, vb := vb, vl := vl } :: os) R (St ts bs ls) := by
  refine op_call h1 h2 h3 ?_
  have e1 : ∀ (bx : List (Nat × List IV)) (bs : List (Nat × List IV)), (St ts bs ls).setBs bx = St ts (bx.reverse ++ bs) ls := by
    intro bx
    induction bx with
    | nil => intro bs; rfl
    | cons x bx ih =>
      intro bs
      obtain ⟨s, cs⟩ := x
      show ((St ts bs ls).setB s cs).setBs bx = _
      rw [St_setB, ih]
      simp
  have e2 : ∀ (tls : List (Tag × Nat × RK)) (bs : List (Nat × List IV)) (ls : List (Tag × Nat × RK)), (St ts bs ls).setLs tls = St ts bs (tls.reverse ++ ls) := by
    intro tls
    induction tls with
    | nil => intro bs ls; rfl
    | cons x tls ih =>
      intro bs ls
      obtain ⟨s, cs⟩ := x
      show ((St ts bs ls).setL s cs).setLs tls = _
      rw [St_setL, ih]
      simp
  show awOps E os R ((((St ts bs ls).setBs bx).setLs tls).setT d v)
  rw [e1, e2]
  exact h
theorem s_call0 {f : FuncId} {args : List (Opd × Mode)} {as outs : List OV} {r : RV} (v : IV) (bx : List (Nat × List IV)) (tls : List (Tag × Nat × RK))
    (h1 : argsOf ((St ts bs ls).see vb vl) args = some as) (h2 : E f as r outs) (h3 : callRes ((St ts bs ls).see vb vl) 0 args r outs = some { v := v, bx := bx, tls := tls })
    (h : awOps E os R (St ts (bx.reverse ++ bs) (tls.reverse ++ ls))) : awOps E ({ dst := none, k := .call f args, vb := vb, vl := vl } :: os) R (St ts bs ls) := by
  refine op_call h1 h2 h3 ?_
  have e1 : ∀ (bx : List (Nat × List IV)) (bs : List (Nat × List IV)), (St ts bs ls).setBs bx = St ts (bx.reverse ++ bs) ls := by
    intro bx
    induction bx with
    | nil => intro bs; rfl
    | cons x bx ih =>
      intro bs
      obtain ⟨s, cs⟩ := x
      show ((St ts bs ls).setB s cs).setBs bx = _
      rw [St_setB, ih]
      simp
  have e2 : ∀ (tls : List (Tag × Nat × RK)) (bs : List (Nat × List IV)) (ls : List (Tag × Nat × RK)), (St ts bs ls).setLs tls = St ts bs (tls.reverse ++ ls) := by
    intro tls
    induction tls with
    | nil => intro bs ls; rfl
    | cons x tls ih =>
      intro bs ls
      obtain ⟨s, cs⟩ := x
      show ((St ts bs ls).setL s cs).setLs tls = _
      rw [St_setL, ih]
      simp
  show awOps E os R (((St ts bs ls).setBs bx).setLs tls)
  rw [e1, e2]
  exact h
/-- A function value is called: what comes back is plain data. -/
theorem s_callv {x : Opd} {args : List Opd} {f : FuncId} {caps : List PV} {as : List OV} {r : RV} (v : IV) (hf : fnOf ((St ts bs ls).val x) = some (f, caps)) (h1 : argsOf ((St ts bs ls).see vb vl) (args.map fun y => (y, .fz)) = some as) (h2 : E f (as ++ caps.map fun v => .l (.fz v)) r []) (h3 : callRes ((St ts bs ls).see vb vl) d [] r [] = some { v := v })
    (h : awOps E os R (St ((d, v) :: ts) bs ls)) : awOps E ({ dst := some d, k := .callv x args, vb := vb, vl := vl } :: os) R (St ts bs ls) :=
  op_callv (by rw [see_val]; exact hf) h1 h2 h3 h
end
/-- A function, and what it has taken in. -/
abbrev Clo := FuncId × List PV

/-- What a body is to leave, where results may be handed over in several ways. -/
def EndsA {R : Type} (rss : List (List (RW × Mode))) (outs : List (RW × Mode)) (encR : R → RV) (encO : R → List OV) (post : R → Prop) (e : AX) (σ : AS) : Prop :=
  match e with
  | .exit _ => False
  | _ => ∃ rs ∈ rss, ∃ r : R, post r ∧ endB σ rs outs = some (encR r, encO r)
theorem evs_of2 {R : Type} {P : Program} {f : FuncId} {fn : Func} {ac : AC} {os : List OV} {encR : R → RV} {encO : R → List OV} {post : R → Prop} (np : Nat) (rs1 rs2 : List (RW × Mode)) (ms : List Mode) (hf : P.funcs[f]? = some fn) (hk1 : fnOK P np fn ac rs1 = true) (hk2 : fnOK P np fn ac rs2 = true) (hn : os.length = np) (hms : modesOK os ms = true)
    (ts : List (Nat × IV)) (bs : List (Nat × List IV)) (ls : List (Tag × Nat × RK)) (he : argsS 0 os .empty = St ts bs ls)
    (hs : aw (Ev P) np ac (EndsA [rs1, rs2] (outsOf 0 os ms) encR encO post) (St ts bs ls)) : ∃ r, post r ∧ Ev P f os (encR r) (encO r) := by
  rw [← he] at hs
  obtain ⟨e, σ', h1, h2⟩ := aw_det ac hs
  have key : (∃ rs ∈ [rs1, rs2], ∃ r : R, post r ∧ endB σ' rs (outsOf 0 os ms) = some (encR r, encO r)) → (∀ i, e ≠ .exit i) → ∃ r, post r ∧ Ev P f os (encR r) (encO r) := by
    rintro ⟨rs, hrs, r, h3, h4⟩ hx
    have hk : fnOK P np fn ac rs = true := by
      simp only [List.mem_cons, List.not_mem_nil, or_false] at hrs
      rcases hrs with rfl | rfl
      · exact hk1
      · exact hk2
    refine ⟨r, h3, ev_of np rs ms hf hk hn hms (h2 (Ends rs (outsOf 0 os ms) (encR r) (encO r)) ?_)⟩
    cases e with
    | exit i => exact absurd rfl (hx i)
    | normal => exact h4
    | ret => exact h4
  cases e with
  | exit i => exact h1.elim
  | normal => exact key h1 (by simp)
  | ret => exact key h1 (by simp)
section
variable {R : Type} {rs1 rs2 outs : List (RW × Mode)} {encR : R → RV} {encO : R → List OV} {post : R → Prop} {σ : AS}
theorem enda1_ret (r : R) (h : post r) (he : endB σ rs1 outs = some (encR r, encO r)) : EndsA [rs1, rs2] outs encR encO post .ret σ := ⟨rs1, by simp, r, h, he⟩
theorem enda2_ret (r : R) (h : post r) (he : endB σ rs2 outs = some (encR r, encO r)) : EndsA [rs1, rs2] outs encR encO post .ret σ := ⟨rs2, by simp, r, h, he⟩
theorem enda1_nor (r : R) (h : post r) (he : endB σ rs1 outs = some (encR r, encO r)) : EndsA [rs1, rs2] outs encR encO post .normal σ := ⟨rs1, by simp, r, h, he⟩
theorem enda2_nor (r : R) (h : post r) (he : endB σ rs2 outs = some (encR r, encO r)) : EndsA [rs1, rs2] outs encR encO post .normal σ := ⟨rs2, by simp, r, h, he⟩
end
theorem evs_of {R : Type} {P : Program} {f : FuncId} {fn : Func} {ac : AC} {os : List OV} {encR : R → RV} {encO : R → List OV} {post : R → Prop} (np : Nat) (rs : List (RW × Mode)) (ms : List Mode) (hf : P.funcs[f]? = some fn) (hk : fnOK P np fn ac rs = true) (hn : os.length = np) (hms : modesOK os ms = true)
    (ts : List (Nat × IV)) (bs : List (Nat × List IV)) (ls : List (Tag × Nat × RK)) (he : argsS 0 os .empty = St ts bs ls)
    (hs : aw (Ev P) np ac (EndsP rs (outsOf 0 os ms) encR encO post) (St ts bs ls)) : ∃ r, post r ∧ Ev P f os (encR r) (encO r) :=
  evx_of np rs ms hf hk hn hms (by rw [he]; exact hs)

end Go.Proofs.Ytfhgjhchjekbgaa
set_option linter.unusedVariables false
set_option linter.unusedSimpArgs false
namespace Go.Proofs.Ytfhgjhchjekbgaa
open Go

inductive Tm where
  | mk (kind n : Int) (name : List UInt8) (args : List Tm)
def Tm.kind : Tm → Int | .mk k _ _ _ => k
def Tm.n : Tm → Int | .mk _ n _ _ => n
def Tm.name : Tm → List UInt8 | .mk _ _ s _ => s
def Tm.args : Tm → List Tm | .mk _ _ _ a => a
mutual
def Tm.enc : Tm → List PV
  | .mk k n name args => [.int .i64 k, .int .i64 n, .str name, .slice (Tm.encL args)]
def Tm.encL : List Tm → List (List PV)
  | [] => []
  | t :: ts => t.enc :: Tm.encL ts
end
/-- The cells of a term. -/
def Tm.cells (t : Tm) : List PV := [.int .i64 t.kind, .int .i64 t.n, .str t.name, .slice (Tm.encL t.args)]
theorem Tm.enc_eq (t : Tm) : t.enc = t.cells := by cases t; simp [Tm.enc, Tm.cells, Tm.kind, Tm.n, Tm.name, Tm.args]
theorem Tm.encL_len : ∀ (ts : List Tm), (Tm.encL ts).length = ts.length
  | [] => by simp [Tm.encL]
  | t :: ts => by simp [Tm.encL, Tm.encL_len ts]
theorem Tm.encL_get : ∀ (ts : List Tm) (i : Nat) (t : Tm), ts[i]? = some t → (Tm.encL ts)[i]? = some t.cells
  | [], i, t, h => by simp at h
  | t' :: ts, 0, t, h => by
    simp at h
    subst h
    simp [Tm.encL, Tm.enc_eq]
  | t' :: ts, i + 1, t, h => by
    simp only [Tm.encL, List.getElem?_cons_succ]
    exact Tm.encL_get ts i t (by simpa using h)
theorem Tm.encL_append (ts us : List Tm) : Tm.encL (ts ++ us) = Tm.encL ts ++ Tm.encL us := by
  induction ts with
  | nil => simp [Tm.encL]
  | cons t ts ih => simp [Tm.encL, ih]
theorem Tm.encL_el (ts : List Tm) : ∀ e ∈ Tm.encL ts, e.length = 4 := by
  induction ts with
  | nil => simp [Tm.encL]
  | cons t ts ih =>
    intro e he
    simp only [Tm.encL, List.mem_cons] at he
    rcases he with rfl | he
    · rw [Tm.enc_eq]
      rfl
    · exact ih e he

instance : EncF Tm.encL Tm.cells 4 := ⟨fun xs => by
  induction xs with
  | nil => rfl
  | cons x xs ih =>
    show x.enc :: Tm.encL xs = x.cells :: xs.map Tm.cells
    rw [ih, Tm.enc_eq], fun _ => rfl⟩

theorem i64_wrap {n : Int} (h0 : -9223372036854775808 ≤ n) (h1 : n ≤ 9223372036854775807) : IntKind.i64.wrap n = n := by
  rw [IntKind.wrap_i64]
  omega

mutual
def Tm.eqb : Tm → Tm → Bool
  | .mk k n s a, .mk k' n' s' a' => k == k' && n == n' && s == s' && Tm.eqbL a a'
def Tm.eqbL : List Tm → List Tm → Bool
  | [], [] => true
  | t :: ts, u :: us => t.eqb u && Tm.eqbL ts us
  | _, _ => false
end
mutual
/-- How large a term is. -/
def Tm.size : Tm → Nat
  | .mk _ _ s a => 1 + s.length + Tm.sizeL a
def Tm.sizeL : List Tm → Nat
  | [] => 0
  | t :: ts => t.size + Tm.sizeL ts
end
theorem Tm.size_pos (t : Tm) : 0 < t.size := by cases t; simp [Tm.size]; omega
theorem Tm.sizeL_len : ∀ (ts : List Tm), ts.length ≤ Tm.sizeL ts
  | [] => by simp [Tm.sizeL]
  | t :: ts => by
    have := Tm.sizeL_len ts
    have := t.size_pos
    simp [Tm.sizeL]
    omega
theorem Tm.sizeL_get : ∀ (ts : List Tm) (i : Nat) (t : Tm), ts[i]? = some t → t.size ≤ Tm.sizeL ts
  | [], i, t, h => by simp at h
  | t' :: ts, 0, t, h => by
    simp at h
    subst h
    simp [Tm.sizeL]
  | t' :: ts, i + 1, t, h => by
    have := Tm.sizeL_get ts i t (by simpa using h)
    simp [Tm.sizeL]
    omega
theorem Tm.size_eq (t : Tm) : t.size = 1 + t.name.length + Tm.sizeL t.args := by cases t; simp [Tm.size, Tm.name, Tm.args]
theorem Tm.args_lt {t u : Tm} {i : Nat} (h : t.args[i]? = some u) : u.size < t.size := by
  have := Tm.sizeL_get _ _ _ h
  rw [t.size_eq]
  omega

/-! ### Small facts of walks -/

theorem inc_eq {i : Nat} (h : i < 4611686018427387904) : IV.p (.int .i64 (IntKind.i64.wrap ((i : Int) + 1))) = IV.p (.int .i64 ((i + 1 : Nat) : Int)) := by
  rw [i64_wrap (by omega) (by omega)]
  simp
theorem enc_lt {xs : List Tm} {i : Nat} (h : decide ((i : Int) < ((Tm.encL xs).length : Int)) = true) : i < xs.length := by
  rw [Tm.encL_len] at h
  simpa using h
theorem enc_ge {xs : List Tm} {i : Nat} (h : decide ((i : Int) < ((Tm.encL xs).length : Int)) = false) : xs.length ≤ i := by
  rw [Tm.encL_len] at h
  simpa using h
theorem map_lt {α : Type} {f : α → List PV} {xs : List α} {i : Nat} (h : decide ((i : Int) < ((xs.map f).length : Int)) = true) : i < xs.length := by
  rw [List.length_map] at h
  simpa using h
theorem map_ge {α : Type} {f : α → List PV} {xs : List α} {i : Nat} (h : decide ((i : Int) < ((xs.map f).length : Int)) = false) : xs.length ≤ i := by
  rw [List.length_map] at h
  simpa using h
theorem get_lt {α : Type} {xs : List α} {i : Nat} (h : i < xs.length) : ∃ x, xs[i]? = some x := ⟨xs[i], by simp [h]⟩
theorem map_get {α : Type} {f : α → List PV} {xs : List α} {i : Nat} {x : α} (h : xs[i]? = some x) : (xs.map f)[i]? = some (f x) := by simp [h]
theorem map_get' {α : Type} {f : α → List PV} {xs : List α} {i : Nat} {x : α} (h : xs[i]? = some x) : (xs.map f)[(i : Int).toNat]? = some (f x) := by simp [h]
theorem take_enc {xs : List Tm} {i : Nat} {u : Tm} (h : xs[i]? = some u) : Tm.encL (xs.take (i + 1)) = Tm.encL (xs.take i) ++ [u.cells] := by
  rw [List.take_add_one, h, Tm.encL_append]
  simp [Tm.encL, Tm.enc_eq]
theorem take_map {α : Type} {f : α → List PV} {xs : List α} {i : Nat} {u : α} (h : xs[i]? = some u) : (xs.take (i + 1)).map f = (xs.take i).map f ++ [f u] := by
  rw [List.take_add_one, h]
  simp
theorem Tm.len_lt {t : Tm} {n : Nat} (h : t.size < n) : t.args.length < n := by
  have := t.size_eq
  have := Tm.sizeL_len t.args
  omega

/-- A name and what it stands for. -/
structure Bd where
  name : List UInt8
  term : Tm
def Bd.cells (b : Bd) : List PV := .str b.name :: b.term.cells
def e_Bd (xs : List Bd) : List (List PV) := xs.map Bd.cells
instance : EncF e_Bd Bd.cells 5 := ⟨fun _ => rfl, fun _ => rfl⟩
def zeroTm : Tm := .mk 0 0 [] []
/-- The term of the first with a name. -/
def bound (l : List Bd) (s : List UInt8) : Option Tm := (l.find? fun b => b.name == s).map (·.term)
def boundT (l : List Bd) (s : List UInt8) : Tm := (bound l s).getD zeroTm
/-- The place of the first with a name. -/
def boundAt : List Bd → List UInt8 → Option Nat
  | [], _ => none
  | b :: l, s => if b.name == s then some 0 else (boundAt l s).map (· + 1)
/-- All terms are small. -/
def BdOK (l : List Bd) (n : Nat) : Prop := ∀ b ∈ l, b.term.size < n
theorem bound_skip {l : List Bd} {s : List UInt8} {i : Nat} {b : Bd} (hb : l[i]? = some b) (h : (b.name == s) = false) : bound (l.drop i) s = bound (l.drop (i + 1)) s := by
  have hlt := lt_of_getElem? hb
  rw [List.getElem?_eq_getElem hlt] at hb
  simp only [Option.some.injEq] at hb
  rw [List.drop_eq_getElem_cons hlt]
  simp only [bound, List.find?_cons, hb, h]
theorem bound_here {l : List Bd} {s : List UInt8} {i : Nat} {b : Bd} (hb : l[i]? = some b) (h : (b.name == s) = true) : bound (l.drop i) s = some b.term := by
  have hlt := lt_of_getElem? hb
  rw [List.getElem?_eq_getElem hlt] at hb
  simp only [Option.some.injEq] at hb
  rw [List.drop_eq_getElem_cons hlt]
  simp only [bound, List.find?_cons, hb, h, Option.map_some]
theorem bound_size {l : List Bd} {s : List UInt8} {t : Tm} {n : Nat} (hl : BdOK l n) (h : bound l s = some t) : t.size < n := by
  unfold bound at h
  rw [Option.map_eq_some_iff] at h
  obtain ⟨b, hb, rfl⟩ := h
  exact hl b (List.mem_of_find?_eq_some hb)
theorem boundT_size {l : List Bd} {s : List UInt8} {n : Nat} (hl : BdOK l n) (hn : 1 < n) : (boundT l s).size < n := by
  unfold boundT
  cases h : bound l s with
  | none => simpa [zeroTm, Tm.size, Tm.sizeL] using hn
  | some t => exact bound_size hl h

mutual
/-- A term with its variables replaced. -/
def Tm.apply (l : List Bd) : Tm → Tm
  | .mk k n s a => match (if k == 1 then bound l s else none) with
    | some u => u
    | none => .mk k n s (Tm.applyL l a)
def Tm.applyL (l : List Bd) : List Tm → List Tm
  | [] => []
  | t :: ts => t.apply l :: Tm.applyL l ts
end
theorem Tm.applyL_map (l : List Bd) : ∀ (ts : List Tm), Tm.applyL l ts = ts.map (Tm.apply l)
  | [] => by simp [Tm.applyL]
  | t :: ts => by simp [Tm.applyL, Tm.applyL_map l ts]
theorem Tm.apply_var {l : List Bd} {t u : Tm} (hk : (t.kind == 1) = true) (h : bound l t.name = some u) : t.apply l = u := by
  cases t
  simp only [Tm.kind, Tm.name] at hk h
  simp [Tm.apply, hk, h]
theorem Tm.apply_new {l : List Bd} {t : Tm} (h : (t.kind == 1) = false ∨ bound l t.name = none) : t.apply l = .mk t.kind t.n t.name (t.args.map (Tm.apply l)) := by
  cases t
  simp only [Tm.kind, Tm.name, Tm.n, Tm.args] at h ⊢
  rcases h with h | h <;> simp [Tm.apply, h, Tm.applyL_map]
theorem boundT_some {l : List Bd} {s : List UInt8} (h : (bound l s).isSome = true) : bound l s = some (boundT l s) := by
  unfold boundT
  cases hb : bound l s with
  | none => rw [hb] at h; cases h
  | some t => rfl
theorem bound_none {l : List Bd} {s : List UInt8} (h : (bound l s).isSome = false) : bound l s = none := by
  cases hb : bound l s with
  | none => rfl
  | some t => rw [hb] at h; cases h
theorem take_encmap {xs : List Tm} {f : Tm → Tm} {i : Nat} {u : Tm} (h : xs[i]? = some u) : Tm.encL ((xs.take (i + 1)).map f) = Tm.encL ((xs.take i).map f) ++ [(f u).cells] := by
  rw [List.take_add_one, h]
  simp [Tm.encL_append, Tm.encL, Tm.enc_eq]

theorem eqb_eq (t u : Tm) : t.eqb u = (t.kind == u.kind && t.n == u.n && t.name == u.name && Tm.eqbL t.args u.args) := by
  cases t
  cases u
  simp [Tm.eqb, Tm.kind, Tm.n, Tm.name, Tm.args]
theorem eqbL_len : ∀ (ts us : List Tm), ts.length ≠ us.length → Tm.eqbL ts us = false
  | [], [], h => by simp at h
  | [], _ :: _, _ => by simp [Tm.eqbL]
  | _ :: _, [], _ => by simp [Tm.eqbL]
  | t :: ts, u :: us, h => by simp [Tm.eqbL, eqbL_len ts us (by simpa using h)]
theorem eqbL_iff : ∀ (ts us : List Tm), ts.length = us.length → (Tm.eqbL ts us = true ↔ ∀ (i : Nat) (t u : Tm), ts[i]? = some t → us[i]? = some u → t.eqb u = true)
  | [], [], _ => by simp [Tm.eqbL]
  | [], _ :: _, h => by simp at h
  | _ :: _, [], h => by simp at h
  | t :: ts, u :: us, h => by
    simp only [Tm.eqbL, Bool.and_eq_true, eqbL_iff ts us (by simpa using h)]
    constructor
    · rintro ⟨h1, h2⟩ i t' u' ht hu
      cases i with
      | zero =>
        simp at ht hu
        subst ht
        subst hu
        exact h1
      | succ i => exact h2 i t' u' (by simpa using ht) (by simpa using hu)
    · intro h1
      exact ⟨h1 0 t u rfl rfl, fun i t' u' ht hu => h1 (i + 1) t' u' (by simpa using ht) (by simpa using hu)⟩


/-! ### Matches -/

mutual
/-- What a match adds to a substitution. -/
def Tm.mt : Tm → Tm → List Bd → List Bd × Bool
  | .mk k n s a, t, l => if k == 1 then (match bound l s with
      | some u => (l, u.eqb t)
      | none => (l ++ [⟨s, t⟩], true)) else if k == t.kind && n == t.n && s == t.name && a.length == t.args.length then Tm.mtL a t.args l else ([], false)
def Tm.mtL : List Tm → List Tm → List Bd → List Bd × Bool
  | [], _, l => (l, true)
  | p :: ps, t :: ts, l => match p.mt t l with
    | (l', true) => Tm.mtL ps ts l'
    | (_, false) => ([], false)
  | _ :: _, [], _ => ([], false)
end
theorem mt_some {p t u : Tm} {l : List Bd} (hk : (p.kind == 1) = true) (h : bound l p.name = some u) : p.mt t l = (l, u.eqb t) := by
  cases p
  simp only [Tm.kind, Tm.name] at hk h
  simp [Tm.mt, hk, h]
theorem mt_none {p t : Tm} {l : List Bd} (hk : (p.kind == 1) = true) (h : bound l p.name = none) : p.mt t l = (l ++ [⟨p.name, t⟩], true) := by
  cases p
  simp only [Tm.kind, Tm.name] at hk h ⊢
  simp [Tm.mt, hk, h]
theorem mt_else {p t : Tm} {l : List Bd} (hk : (p.kind == 1) = false) : p.mt t l = if p.kind == t.kind && p.n == t.n && p.name == t.name && p.args.length == t.args.length then Tm.mtL p.args t.args l else ([], false) := by
  cases p with
  | mk k n s a =>
    have hk' : (k == 1) = false := hk
    show (if k == 1 then _ else _) = _
    simp only [hk', Bool.false_eq_true, if_false]
    rfl
theorem mtL_step {ps ts : List Tm} {l : List Bd} {i : Nat} {p t : Tm} (hp : ps[i]? = some p) (ht : ts[i]? = some t) : Tm.mtL (ps.drop i) (ts.drop i) l = match p.mt t l with
    | (l', true) => Tm.mtL (ps.drop (i + 1)) (ts.drop (i + 1)) l'
    | (_, false) => ([], false) := by
  have h1 := lt_of_getElem? hp
  have h2 := lt_of_getElem? ht
  rw [List.getElem?_eq_getElem h1] at hp
  rw [List.getElem?_eq_getElem h2] at ht
  simp only [Option.some.injEq] at hp ht
  rw [List.drop_eq_getElem_cons h1, List.drop_eq_getElem_cons h2, hp, ht]
  simp only [Tm.mtL]
mutual
theorem Tm.mt_len : ∀ (p t : Tm) (l : List Bd), (p.mt t l).1.length ≤ l.length + p.size
  | .mk k n s a, t, l => by
    have ih := Tm.mtL_len a t.args l
    simp only [Tm.mt]
    split
    · split <;> simp [Tm.size] <;> omega
    · split
      · simp only [Tm.size]
        omega
      · simp
theorem Tm.mtL_len : ∀ (ps ts : List Tm) (l : List Bd), (Tm.mtL ps ts l).1.length ≤ l.length + Tm.sizeL ps
  | [], _, l => by simp [Tm.mtL]
  | p :: ps, [], l => by simp [Tm.mtL]
  | p :: ps, t :: ts, l => by
    have h1 := Tm.mt_len p t l
    simp only [Tm.mtL]
    split
    · rename_i l' e
      have h2 := Tm.mtL_len ps ts l'
      rw [e] at h1
      simp only [Tm.sizeL] at h1 ⊢
      omega
    · simp
end
mutual
theorem Tm.mt_ok {B : Nat} : ∀ (p t : Tm) (l : List Bd), t.size < B → BdOK l B → BdOK (p.mt t l).1 B
  | .mk k n s a, t, l, ht, hl => by
    have hs := t.size_eq
    have ih := Tm.mtL_ok (B := B) a t.args l (fun u hu => by
      obtain ⟨i, hi⟩ := List.mem_iff_getElem?.1 hu
      have := Tm.args_lt hi
      omega) hl
    simp only [Tm.mt]
    split
    · split
      · exact hl
      · intro b hb
        rcases List.mem_append.1 hb with h | h
        · exact hl b h
        · simp only [List.mem_singleton] at h
          subst h
          exact ht
    · split
      · exact ih
      · intro b hb
        cases hb
theorem Tm.mtL_ok {B : Nat} : ∀ (ps ts : List Tm) (l : List Bd), (∀ t ∈ ts, t.size < B) → BdOK l B → BdOK (Tm.mtL ps ts l).1 B
  | [], _, l, _, hl => by simpa [Tm.mtL] using hl
  | p :: ps, [], l, _, hl => by
    intro b hb
    simp [Tm.mtL] at hb
  | p :: ps, t :: ts, l, ht, hl => by
    have h1 := Tm.mt_ok (B := B) p t l (ht t (by simp)) hl
    simp only [Tm.mtL]
    split
    · rename_i l' e
      rw [e] at h1
      exact Tm.mtL_ok ps ts l' (fun u hu => ht u (by simp [hu])) h1
    · intro b hb
      cases hb
end
theorem Tm.sizeL_drop {ps : List Tm} {i : Nat} {p : Tm} (h : ps[i]? = some p) : Tm.sizeL (ps.drop i) = p.size + Tm.sizeL (ps.drop (i + 1)) := by
  have h1 := lt_of_getElem? h
  rw [List.getElem?_eq_getElem h1] at h
  simp only [Option.some.injEq] at h
  rw [List.drop_eq_getElem_cons h1, h]
  simp [Tm.sizeL]

/-- The place of the first with a name, or -1. -/
def atI (l : List Bd) (s : List UInt8) : Int := match boundAt l s with
  | some k => k
  | none => -1
theorem boundAt_some : ∀ {l : List Bd} {s : List UInt8} {k : Nat}, boundAt l s = some k → ∃ b, l[k]? = some b ∧ bound l s = some b.term
  | [], s, k, h => by simp [boundAt] at h
  | b :: l, s, k, h => by
    simp only [boundAt] at h
    split at h
    · rename_i e
      simp only [Option.some.injEq] at h
      subst h
      exact ⟨b, rfl, by simp [bound, e]⟩
    · rename_i e
      rw [Option.map_eq_some_iff] at h
      obtain ⟨k', h1, rfl⟩ := h
      obtain ⟨b', h2, h3⟩ := boundAt_some h1
      exact ⟨b', by simpa using h2, by simpa [bound, e] using h3⟩
theorem boundAt_none : ∀ {l : List Bd} {s : List UInt8}, boundAt l s = none → bound l s = none
  | [], s, h => rfl
  | b :: l, s, h => by
    simp only [boundAt] at h
    split at h
    · cases h
    · rename_i e
      simp only [Option.map_eq_none_iff] at h
      simpa [bound, e] using boundAt_none h
theorem boundAt_skip : ∀ {l : List Bd} {s : List UInt8} {i : Nat}, (∀ j b, j < i → l[j]? = some b → (b.name == s) = false) → i ≤ l.length → boundAt l s = (boundAt (l.drop i) s).map (· + i)
  | l, s, 0, _, _ => by simp
  | [], s, i + 1, _, h => by simp at h
  | b :: l, s, i + 1, h, hl => by
    have h0 := h 0 b (by omega) rfl
    simp only [boundAt, h0, List.drop_succ_cons]
    rw [boundAt_skip (i := i) (fun j b' hj hb => h (j + 1) b' (by omega) (by simpa using hb)) (by simpa using hl)]
    simp only [Bool.false_eq_true, if_false, Option.map_map]
    congr 1
theorem boundAt_here {l : List Bd} {s : List UInt8} {i : Nat} {b : Bd} (h : ∀ j b, j < i → l[j]? = some b → (b.name == s) = false) (hb : l[i]? = some b) (e : (b.name == s) = true) : boundAt l s = some i := by
  have hlt := lt_of_getElem? hb
  rw [boundAt_skip h (by omega)]
  rw [List.getElem?_eq_getElem hlt] at hb
  simp only [Option.some.injEq] at hb
  rw [List.drop_eq_getElem_cons hlt, hb]
  simp [boundAt, e]
theorem boundAt_end {l : List Bd} {s : List UInt8} (h : ∀ j b, j < l.length → l[j]? = some b → (b.name == s) = false) : boundAt l s = none := by
  rw [boundAt_skip h (Nat.le_refl _)]
  simp [boundAt]

end Go.Proofs.Ytfhgjhchjekbgaa
