/-
  From the contract of a law over a list of bytes to what its row asks.
-/
import Derived.Test.YtfhgjhchjekbgaaE3
import Derived.Below
set_option linter.unusedVariables false
set_option linter.unusedSimpArgs false
namespace Go.Proofs.Ytfhgjhchjekbgaa
open Go

/-- The marks of a world in which all that is there is read only. -/
def allK (w : World) (b : Nat) : Nat := match w.heap[b]? with
  | some (.cells cs _ _) => cs.size
  | _ => 0
theorem allK_ok (w : World) : KOK (allK w) w := by
  intro b hb
  unfold allK at hb ⊢
  split at hb
  · rename_i cs e fr h
    exact ⟨cs, e, fr, h, by simp⟩
  · omega
theorem allK_cell {w : World} {a : Addr} {v : Value} (h : w.cell? a = some v) : a.spot = none ∧ a.off < allK w a.block := by
  unfold World.cell? at h
  unfold allK
  split at h
  · rename_i cs e fr hg
    split at h
    · cases h
    · rename_i hs
      refine ⟨by simpa using hs, ?_⟩
      rw [hg]
      exact (Array.getElem?_eq_some_iff.1 h).1
  · cases h
theorem bytes_rep {w : World} {a : Option Addr} {len cap : Nat} {z : List Int}
    (hw : (a = none ∧ len = 0 ∧ cap = 0 ∧ z = []) ∨ ∃ x, a = some x ∧ len ≤ cap ∧ cap ≤ maxLen ∧ z.length = cap ∧ (∀ i, i < z.length → w.cell? (x.add i) = some (.int .u8 (z.getD i 0))) ∧ ∀ n ∈ z, (Lit.int .u8 n).wf = true) :
    Rep (allK w) w (.slice a len cap) (.slice (e_u8 (z.take len))) := by
  rcases hw with ⟨rfl, rfl, rfl, rfl⟩ | ⟨x, rfl, hl, hm, hz, hc, _⟩
  · exact .slice0 none 0
  · rcases Nat.eq_zero_or_pos len with h0 | h0
    · subst h0
      simp only [List.take_zero]
      exact .slice0 (some x) cap
    · have h1 := hc 0 (by omega)
      have e0 : x.add 0 = x := by simp [Addr.add]
      rw [e0] at h1
      obtain ⟨hs, _⟩ := allK_cell h1
      obtain ⟨b, off, spot⟩ := x
      simp only at hs
      subst hs
      have hadd : ∀ i, (⟨b, off, none⟩ : Addr).add i = ⟨b, off + i, none⟩ := fun i => by
        unfold Addr.add
        split
        · rename_i e
          rw [e]
          rfl
        · rfl
      have hlen : (z.take len).length = len := by simp; omega
      have hget : ∀ i, i < len → (e_u8 (z.take len))[i]? = some [.int .u8 (z.getD i 0)] := fun i hi => by
        refine (enc_get (e := e_u8) (u := z.getD i 0) ?_).trans rfl
        rw [List.getElem?_take, if_pos hi, List.getD, List.getElem?_eq_getElem (by omega)]
        rfl
      have one : ∀ (i : Nat) (y : List PV), (e_u8 (z.take len))[i]? = some y → i < len ∧ y = [.int .u8 (z.getD i 0)] := fun i y hy => by
        have hi : i < len := by
          have := lt_of_getElem? hy
          rw [enc_len (e := e_u8), hlen] at this
          exact this
        rw [hget i hi] at hy
        exact ⟨hi, (Option.some.inj hy).symm⟩
      have cel : ∀ (j : Nat) (c : PV) (i : Nat), ([.int .u8 (z.getD i 0)] : List PV)[j]? = some c → j = 0 ∧ c = .int .u8 (z.getD i 0) := fun j c i hj => by
        cases j with
        | zero => simp at hj; exact ⟨rfl, hj.symm⟩
        | succ j => simp at hj
      refine .slice b off len cap 1 _ (fun i _ => .int .u8 (z.getD i 0)) h0 (by rw [enc_len (e := e_u8), hlen]) hl ?_ ?_ ?_ ?_ ?_
      · have h2 := hc (len - 1) (by omega)
        rw [hadd] at h2
        have := (allK_cell h2).2
        simp only at this
        omega
      · intro i y hy
        rw [(one i y hy).2]
        rfl
      · intro i y j c hy hj
        obtain ⟨h3, rfl⟩ := one i y hy
        obtain ⟨rfl, rfl⟩ := cel j c i hj
        have h4 := hc i (by omega)
        rw [hadd] at h4
        simpa using h4
      · intro i y j c hy hj
        rfl
      · intro i y j c hy hj
        obtain ⟨h3, rfl⟩ := one i y hy
        obtain ⟨rfl, rfl⟩ := cel j c i hj
        exact .int _ _
theorem row_of {P : Program} {f : FuncId} (hf : ∀ xs : List Int, xs.length ≤ 140737488355328 → Ev P f [.l (.fz (.slice (e_u8 xs)))] (.one (.l (.fz (.bool true)))) []) (a : Option Addr) (len cap : Nat) (z : List Int) (w : World)
    (hw : (a = none ∧ len = 0 ∧ cap = 0 ∧ z = []) ∨ ∃ x, a = some x ∧ len ≤ cap ∧ cap ≤ maxLen ∧ z.length = cap ∧ (∀ i, i < z.length → w.cell? (x.add i) = some (.int .u8 (z.getD i 0))) ∧ ∀ n ∈ z, (Lit.int .u8 n).wf = true) (hy : len * 1 ≤ 140737488351232) :
    Calls P f #[.slice a len cap] w fun e w' => e = .returned (.bool true) ∧ Go.RowKit.Below w.heap.size w w' := by
  obtain ⟨_, h⟩ := hf (z.take len) (by simp; omega)
  refine Calls.mono (h (allK w) w #[.slice a len cap] [] (allK_ok w) ?_ (by simp)) fun e w' he => ?_
  · exact .cons (.l (.fz (bytes_rep hw))) .nil
  · obtain ⟨v, K', br, bo, rfl, hk, _, _, _, hr, _⟩ := he
    cases hr with
    | one hr =>
      cases hr with
      | l hr =>
        cases hr with
        | fz hr =>
          cases hr
          exact ⟨rfl, hk.os, hk.tape, hk.output, hk.size, fun b hb => hk.block b hb (by simp)⟩

end Go.Proofs.Ytfhgjhchjekbgaa
