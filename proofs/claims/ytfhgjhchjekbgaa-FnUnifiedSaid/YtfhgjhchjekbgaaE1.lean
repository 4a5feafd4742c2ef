/-
  The pure values of the verified symbolic executor of this claim: what a Go value of plain data reads as, how it lies in memory, and that this reading lasts while memory only grows.
-/
import Derived.Orders
import Derived.Laws.AppendOwn
import Derived.Laws.Tables
import Derived.Laws.Slices
import Derived.Laws.Small
import Derived.Laws.StructEq
set_option linter.unusedVariables false
set_option linter.unusedSimpArgs false
namespace Go.Proofs.Ytfhgjhchjekbgaa
open Go

/-- Plain data, as a Go value reads: a struct is the list of its cells, a slice the list of its elements, each the list of its cells. -/
inductive PV where
  | int (k : IntKind) (n : Int)
  | bool (b : Bool)
  | str (s : List UInt8)
  | slice (xs : List (List PV))
  | agg (cs : List PV)
  | tup (vs : List PV)
  | cptr (cs : List PV)
  | clo (f : FuncId) (caps : List PV)


/-- The value v reads as the data x; what is read lies in cells below the marks K. -/
inductive Rep (K : Nat → Nat) (w : World) : Value → PV → Prop where
  | int (k : IntKind) (n : Int) : Rep K w (.int k n) (.int k n)
  | bool (b : Bool) : Rep K w (.bool b) (.bool b)
  | str (s : List UInt8) : Rep K w (.string ⟨s.toArray⟩) (.str s)
  | slice0 (a : Option Addr) (cap : Nat) : Rep K w (.slice a 0 cap) (.slice [])
  | slice (b off len cap sz : Nat) (xs : List (List PV)) (f : Nat → Nat → Value) (h0 : 0 < len) (hl : xs.length = len) (hp : len ≤ cap) (hK : off + len * sz ≤ K b)
      (hs : ∀ (i : Nat) (x : List PV), xs[i]? = some x → x.length = sz)
      (hc : ∀ (i : Nat) (x : List PV) (j : Nat) (c : PV), xs[i]? = some x → x[j]? = some c → w.cell? ⟨b, off + i * sz + j, none⟩ = some (f i j))
      (h1 : ∀ (i : Nat) (x : List PV) (j : Nat) (c : PV), xs[i]? = some x → x[j]? = some c → (f i j).oneCell' = true)
      (hr : ∀ (i : Nat) (x : List PV) (j : Nat) (c : PV), xs[i]? = some x → x[j]? = some c → Rep K w (f i j) c) : Rep K w (.slice (some ⟨b, off, none⟩) len cap) (.slice xs)
  | agg (vs : Array Value) (cs : List PV) (f : Nat → Value) (hl : vs.size = cs.length)
      (hc : ∀ (i : Nat) (c : PV), cs[i]? = some c → vs[i]? = some (f i))
      (h1 : ∀ (i : Nat) (c : PV), cs[i]? = some c → (f i).oneCell' = true)
      (hr : ∀ (i : Nat) (c : PV), cs[i]? = some c → Rep K w (f i) c) : Rep K w (.agg vs) (.agg cs)
  | tup (vs : Array Value) (cs : List PV) (f : Nat → Value) (hl : vs.size = cs.length)
      (hc : ∀ (i : Nat) (c : PV), cs[i]? = some c → vs[i]? = some (f i))
      (hr : ∀ (i : Nat) (c : PV), cs[i]? = some c → Rep K w (f i) c) : Rep K w (.tuple vs) (.tup cs)
  | cptr (b off : Nat) (cs : List PV) (f : Nat → Value) (hK : off + cs.length ≤ K b)
      (hc : ∀ (i : Nat) (c : PV), cs[i]? = some c → w.cell? ⟨b, off + i, none⟩ = some (f i))
      (h1 : ∀ (i : Nat) (c : PV), cs[i]? = some c → (f i).oneCell' = true)
      (hr : ∀ (i : Nat) (c : PV), cs[i]? = some c → Rep K w (f i) c) : Rep K w (.pointer (some ⟨b, off, none⟩)) (.cptr cs)
  | clo (g : FuncId) (vs : Array Value) (cs : List PV) (f : Nat → Value) (hl : vs.size = cs.length)
      (hc : ∀ (i : Nat) (c : PV), cs[i]? = some c → vs[i]? = some (f i))
      (hr : ∀ (i : Nat) (c : PV), cs[i]? = some c → Rep K w (f i) c) : Rep K w (.func (.func g) #[] vs) (.clo g cs)

/-- What lies below the marks is as it was; the marks have not gone down. -/
structure Ext (K K' : Nat → Nat) (w w' : World) : Prop where
  mk ::
  le : ∀ b, K b ≤ K' b
  cell : ∀ b o, o < K b → w'.cell? ⟨b, o, none⟩ = w.cell? ⟨b, o, none⟩

theorem Ext.refl (K : Nat → Nat) (w : World) : Ext K K w w := ⟨fun _ => Nat.le_refl _, fun _ _ _ => rfl⟩
theorem Ext.trans {K1 K2 K3 : Nat → Nat} {w1 w2 w3 : World} (h : Ext K1 K2 w1 w2) (h' : Ext K2 K3 w2 w3) : Ext K1 K3 w1 w3 :=
  ⟨fun b => Nat.le_trans (h.le b) (h'.le b), fun b o ho => (h'.cell b o (Nat.lt_of_lt_of_le ho (h.le b))).trans (h.cell b o ho)⟩

theorem mulAdd_lt {i j len sz : Nat} (hi : i < len) (hj : j < sz) : i * sz + j < len * sz := by
  have : (i + 1) * sz ≤ len * sz := Nat.mul_le_mul_right _ hi
  rw [Nat.add_mul] at this
  omega

theorem lt_of_getElem? {α : Type} {l : List α} {i : Nat} {x : α} (h : l[i]? = some x) : i < l.length := by
  rw [List.getElem?_eq_some_iff] at h
  exact h.1

theorem Rep.ext {K K' : Nat → Nat} {w w' : World} {v : Value} {x : PV} (h : Rep K w v x) (he : Ext K K' w w') : Rep K' w' v x := by
  induction h with
  | int k n => exact .int k n
  | bool b => exact .bool b
  | str s => exact .str s
  | slice0 a cap => exact .slice0 a cap
  | slice b off len cap sz xs f h0 hl hp hK hs hc h1 hr ih =>
    refine .slice b off len cap sz xs f h0 hl hp (Nat.le_trans hK (he.le b)) hs (fun i x j c hx hj => ?_) h1 ih
    rw [he.cell _ _ _]
    · exact hc i x j c hx hj
    · have h2 := lt_of_getElem? hx
      have h3 := lt_of_getElem? hj
      rw [hs i x hx] at h3
      have := mulAdd_lt (hl ▸ h2) h3
      omega
  | agg vs cs f hl hc h1 hr ih => exact .agg vs cs f hl hc h1 ih
  | tup vs cs f hl hc hr ih => exact .tup vs cs f hl hc ih
  | cptr b off cs f hK hc h1 hr ih =>
    refine .cptr b off cs f (Nat.le_trans hK (he.le b)) (fun i c hi => ?_) h1 ih
    rw [he.cell _ _ _]
    · exact hc i c hi
    · have := lt_of_getElem? hi
      omega
  | clo g vs cs f hl hc hr ih => exact .clo g vs cs f hl hc ih

/-- The marks lie within blocks of cells that are there. -/
def KOK (K : Nat → Nat) (w : World) : Prop := ∀ b, 0 < K b → ∃ cs e fr, w.heap[b]? = some (.cells cs e fr) ∧ K b ≤ cs.size

theorem KOK.lt {K : Nat → Nat} {w : World} (h : KOK K w) {b : Nat} (hb : 0 < K b) : b < w.heap.size := by
  obtain ⟨cs, e, fr, hg, _⟩ := h b hb
  exact (Array.getElem?_eq_some_iff.1 hg).1
theorem KOK.zero {K : Nat → Nat} {w : World} (h : KOK K w) {b : Nat} (hb : w.heap.size ≤ b) : K b = 0 := by
  rcases Nat.eq_zero_or_pos (K b) with h0 | h0
  · exact h0
  · have := h.lt h0
    omega

/-- Outside the blocks of T, and of what is new, memory is as it was. -/
structure Keep (T : Nat → Prop) (w w' : World) : Prop where
  mk ::
  os : w'.os = w.os
  tape : w'.tape = w.tape
  output : w'.output = w.output
  size : w.heap.size ≤ w'.heap.size
  block : ∀ b, b < w.heap.size → ¬ T b → w'.heap[b]? = w.heap[b]?

theorem Keep.refl (T : Nat → Prop) (w : World) : Keep T w w := ⟨rfl, rfl, rfl, Nat.le_refl _, fun _ _ _ => rfl⟩
theorem Keep.trans {T T' : Nat → Prop} {w1 w2 w3 : World} (h : Keep T w1 w2) (h' : Keep T' w2 w3) (hT : ∀ b, b < w1.heap.size → T' b → T b) : Keep T w1 w3 :=
  ⟨h'.os.trans h.os, h'.tape.trans h.tape, h'.output.trans h.output, Nat.le_trans h.size h'.size, fun b hb hn =>
    (h'.block b (Nat.lt_of_lt_of_le hb h.size) (fun ht => hn (hT b hb ht))).trans (h.block b hb hn)⟩
theorem Keep.mono {T T' : Nat → Prop} {w w' : World} (h : Keep T w w') (hT : ∀ b, b < w.heap.size → T b → T' b) : Keep T' w w' :=
  ⟨h.os, h.tape, h.output, h.size, fun b hb hn => h.block b hb (fun ht => hn (hT b hb ht))⟩
theorem Keep.drew (T : Nat → Prop) (w : World) : Keep T w w.drew := ⟨rfl, rfl, rfl, Nat.le_refl _, fun _ _ _ => rfl⟩
theorem Keep.alloc (T : Nat → Prop) (w : World) (o : Obj) : Keep T w (w.alloc o) := ⟨rfl, rfl, rfl, by simp, fun b hb _ => heap_alloc_old w o b hb⟩
theorem Keep.setRow (T : Nat → Prop) (w : World) (g : Nat) (cs : Array Value) (hg : T g) : Keep T w (w.setRow g cs) :=
  ⟨rfl, rfl, rfl, by simp, fun b _ hn => setRow_other w g b cs (fun e => hn (e ▸ hg))⟩

theorem cell_of_heap {w w' : World} {b o : Nat} (h : w'.heap[b]? = w.heap[b]?) : w'.cell? ⟨b, o, none⟩ = w.cell? ⟨b, o, none⟩ := by simp [World.cell?, h]

theorem Ext.of_keep {K : Nat → Nat} {T : Nat → Prop} {w w' : World} (h : Keep T w w') (hk : KOK K w) (hT : ∀ b, T b → K b = 0) : Ext K K w w' :=
  ⟨fun _ => Nat.le_refl _, fun b o ho => by
    have hb : b < w.heap.size := hk.lt (by omega)
    exact cell_of_heap (h.block b hb (fun ht => by have := hT b ht; omega))⟩

/-! ### Owned parts: a slice at the end of its row, a variable's cells -/

/-- Where ownership may lie: in a cell. -/
inductive OL where
  | fz (v : PV)
  | ow (sz : Nat) (xs : List (List PV))
  | mu (sz : Nat) (xs : List (List PV))

/-- What is handed over at a call: plain data, an owned slice, a struct with owned slices, a pointer to a variable of which nobody else knows. -/
inductive OV where
  | l (x : OL)
  | agg (cs : List OL)
  | ptr (cs : List OL)

/-- What a call gives back. -/
inductive RV where
  | one (x : OV)
  | tup (xs : List OV)

/-- A slice value that lies at the end of its row: the row's cells from its end on belong to whoever owns the value. -/
inductive Tip (K : Nat → Nat) (w : World) : Value → Nat → Nat → List Nat → Prop where
  | nil (sz : Nat) : Tip K w (.slice none 0 0) 0 sz []
  | row (b n cap sz : Nat) (cur : Array Value) (e : TypeId) (hg : w.heap[b]? = some (.cells cur e (0, 0))) (hn : n ≤ cap) (hm : cap ≤ maxLen) (hs : cur.size = cap * sz) (h0 : 0 < sz) (hK : K b = n * sz) :
      Tip K w (.slice (some ⟨b, 0, none⟩) n cap) n sz [b]

inductive RepL (K : Nat → Nat) (w : World) : Value → OL → List Nat → Prop where
  | fz {v : Value} {x : PV} (h : Rep K w v x) : RepL K w v (.fz x) []
  | ow {v : Value} {sz : Nat} {xs : List (List PV)} {bs : List Nat} (h : Rep K w v (.slice xs)) (ht : Tip K w v xs.length sz bs) (hs : ∀ e ∈ xs, e.length = sz) : RepL K w v (.ow sz xs) bs
  | muNil (sz : Nat) : RepL K w (.slice none 0 0) (.mu sz []) []
  | mu (b n cap sz : Nat) (cur : Array Value) (e : TypeId) (xs : List (List PV)) (f : Nat → Nat → Value) (hg : w.heap[b]? = some (.cells cur e (0, 0))) (hn : n ≤ cap) (hm : cap ≤ maxLen) (hz : cur.size = cap * sz) (h0 : 0 < sz) (hK : K b = 0)
      (hl : xs.length = n) (hs : ∀ (i : Nat) (x : List PV), xs[i]? = some x → x.length = sz)
      (hc : ∀ (i : Nat) (x : List PV) (j : Nat) (c : PV), xs[i]? = some x → x[j]? = some c → cur[i * sz + j]? = some (f i j))
      (h1 : ∀ (i : Nat) (x : List PV) (j : Nat) (c : PV), xs[i]? = some x → x[j]? = some c → (f i j).oneCell' = true)
      (hr : ∀ (i : Nat) (x : List PV) (j : Nat) (c : PV), xs[i]? = some x → x[j]? = some c → Rep K w (f i j) c) : RepL K w (.slice (some ⟨b, 0, none⟩) n cap) (.mu sz xs) [b]

/-- Cells, one after the other. -/
inductive RepC (K : Nat → Nat) (w : World) : List Value → List OL → List Nat → Prop where
  | nil : RepC K w [] [] []
  | cons {v : Value} {x : OL} {b1 : List Nat} {vs : List Value} {xs : List OL} {b2 : List Nat} (h : RepL K w v x b1) (h1 : v.oneCell' = true) (hr : RepC K w vs xs b2) : RepC K w (v :: vs) (x :: xs) (b1 ++ b2)

inductive RepO (K : Nat → Nat) (w : World) : Value → OV → List Nat → Prop where
  | l {v : Value} {x : OL} {bs : List Nat} (h : RepL K w v x bs) : RepO K w v (.l x) bs
  | agg {vs : Array Value} {cs : List OL} {bs : List Nat} (h : RepC K w vs.toList cs bs) : RepO K w (.agg vs) (.agg cs) bs
  | ptr {b : Nat} {vs : Array Value} {e : TypeId} {cs : List OL} {bs : List Nat} (hg : w.heap[b]? = some (.cells vs e (0, 0))) (hK : K b = 0) (hl : cs.length ≤ vs.size) (h : RepC K w (vs.toList.take cs.length) cs bs) :
      RepO K w (.pointer (some ⟨b, 0, none⟩)) (.ptr cs) (b :: bs)

inductive RepOs (K : Nat → Nat) (w : World) : List Value → List OV → List Nat → Prop where
  | nil : RepOs K w [] [] []
  | cons {v : Value} {x : OV} {b1 : List Nat} {vs : List Value} {xs : List OV} {b2 : List Nat} (h : RepO K w v x b1) (hr : RepOs K w vs xs b2) : RepOs K w (v :: vs) (x :: xs) (b1 ++ b2)

inductive RepR (K : Nat → Nat) (w : World) : Value → RV → List Nat → Prop where
  | one {v : Value} {x : OV} {bs : List Nat} (h : RepO K w v x bs) : RepR K w v (.one x) bs
  | tup {vs : Array Value} {xs : List OV} {bs : List Nat} (h : RepOs K w vs.toList xs bs) : RepR K w (.tuple vs) (.tup xs) bs

/-- The arguments that the call may change in place: variables that are handed over by pointer, rows that are handed over to be written. -/
def ptrArgs : List Value → List OV → List Value
  | v :: vs, .ptr _ :: xs => v :: ptrArgs vs xs
  | v :: vs, .l (.mu _ _) :: xs => v :: ptrArgs vs xs
  | _ :: vs, _ :: xs => ptrArgs vs xs
  | _, _ => []

/-- The function has a body of its own. -/
def FnOK (P : Program) (f : FuncId) : Prop := ∃ fn, P.funcs[f]? = some fn ∧ (fn.name == "runtime.NumGoroutine") = false ∧ fn.body.isNone = false

/-- WHAT A CALL DOES: function f, called with whatever values read as args (what is owned lies apart), returns what reads as r, the variables that were handed over by pointer hold outs; nothing else that was there has changed. -/
def Ev (P : Program) (f : FuncId) (args : List OV) (r : RV) (outs : List OV) : Prop :=
  FnOK P f ∧ ∀ (K : Nat → Nat) (w : World) (vs : Array Value) (bs : List Nat), KOK K w → RepOs K w vs.toList args bs → bs.Nodup →
    Calls P f vs w fun e w' => ∃ (v : Value) (K' : Nat → Nat) (br bo : List Nat), e = .returned v ∧ Keep (· ∈ bs) w w' ∧ KOK K' w' ∧ Ext K K' w w' ∧ (∀ b, b < w.heap.size → b ∉ bs → K' b = K b) ∧
      RepR K' w' v r br ∧ RepOs K' w' (ptrArgs vs.toList args) outs bo ∧ (br ++ bo).Nodup ∧ ∀ b ∈ br ++ bo, b ∈ bs ∨ w.heap.size ≤ b

end Go.Proofs.Ytfhgjhchjekbgaa
set_option linter.unusedVariables false
set_option linter.unusedSimpArgs false
namespace Go.Proofs.Ytfhgjhchjekbgaa
open Go

/-- The name of an owned row: by the place where it began (kind, place, part). -/
abbrev Tag := Nat × Nat × Nat
def Tag.site (g : Tag) : Nat := g.2.1

/-- What a temporary or a variable's cell holds. -/
inductive IV where
  | p (v : PV)
  | undef
  | nil (sz : Nat)
  | tip (g : Tag) (r : Nat) (xs : List (List PV))
  | mo (g : Tag) (r : Nat)
  | mp (g : Tag) (r off : Nat)
  | ptr (s off : Nat)
  | agg (cs : List IV)
  | tup (cs : List IV)
  | clo (f : FuncId) (caps : List IV)

/-- What is known of a row: nothing any more; it has n elements of sz cells, and the next one may be added; its elements, which may be written. -/
inductive RK where
  | spent
  | tip (n sz : Nat)
  | mo (sz : Nat) (es : List (List PV))

structure AS where
  tmp : Nat → IV
  box : Nat → Option (List IV)
  tl : Tag → Option (Nat × RK)

mutual
def IV.kill (S : List Nat) : IV → IV
  | .p v => .p v
  | .undef => .undef
  | .nil sz => .nil sz
  | .tip g r xs => if S.contains g.site then .p (.slice xs) else .tip g r xs
  | .mo g r => if S.contains g.site then .undef else .mo g r
  | .mp g r o => if S.contains g.site then .undef else .mp g r o
  | .ptr s o => if S.contains s then .undef else .ptr s o
  | .agg cs => .agg (IV.killL S cs)
  | .tup cs => .tup (IV.killL S cs)
  | .clo f cs => .clo f (IV.killL S cs)
def IV.killL (S : List Nat) : List IV → List IV
  | [] => []
  | x :: xs => x.kill S :: IV.killL S xs
end

/-- The places S begin anew: nothing speaks of them any more. -/
def AS.kill (S : List Nat) (σ : AS) : AS where
  tmp t := (σ.tmp t).kill S
  box s := if S.contains s then none else (σ.box s).map (IV.killL S)
  tl g := if S.contains g.site then none else σ.tl g

def AS.setT (σ : AS) (d : Nat) (v : IV) : AS := { σ with tmp := fun t => if t = d then v else σ.tmp t }
def AS.setB (σ : AS) (s : Nat) (cs : List IV) : AS := { σ with box := fun t => if t = s then some cs else σ.box t }
def AS.setL (σ : AS) (g : Tag) (x : Nat × RK) : AS := { σ with tl := fun t => if t = g then some x else σ.tl t }
/-- What is in sight: all but these, only these. -/
inductive Vis where
  | but (l : List Nat)
  | only (l : List Nat)
def Vis.has : Vis → Nat → Bool
  | .but l, s => !l.contains s
  | .only l, s => l.contains s
/-- Some variables and rows are out of sight. -/
def AS.see (σ : AS) (vb vl : Vis) : AS :=
  { σ with box := fun s => if vb.has s then σ.box s else none, tl := fun g => if vl.has g.site then σ.tl g else none }

inductive Opd where
  | t (n : Nat)
  | c (v : PV)
  | nl (sz : Nat)
  | fn (f : FuncId)
  | u

def AS.val (σ : AS) : Opd → IV
  | .t n => σ.tmp n
  | .c v => .p v
  | .nl sz => .nil sz
  | .fn f => .clo f []
  | .u => .undef

/-! ### Plain functions on values -/

def IV.fz0 : IV → Option PV
  | .p v => some v
  | .tip _ _ xs => some (.slice xs)
  | .nil _ => some (.slice [])
  | _ => none
def fzL : List IV → Option (List PV)
  | [] => some []
  | x :: xs => match x.fz0, fzL xs with
    | some v, some vs => some (v :: vs)
    | _, _ => none
def IV.fz : IV → Option PV
  | .agg cs => (fzL cs).map .agg
  | .clo f [] => some (.clo f [])
  | x => x.fz0
/-- A value's cells. -/
def IV.cells : IV → Option (List IV)
  | .agg cs => some cs
  | .p (.agg cs) => some (cs.map .p)
  | .p (.tup _) => none
  | .tup _ => none
  | .undef => none
  | x => some [x]
/-- A struct's cells. -/
def IV.aggs : IV → Option (List IV)
  | .agg cs => some cs
  | .p (.agg cs) => some (cs.map .p)
  | _ => none
def PV.int? : PV → Option Int
  | .int _ n => some n
  | _ => none
def IV.int? : IV → Option Int
  | .p (.int _ n) => some n
  | _ => none
def IV.elems : IV → Option (List (List PV))
  | .p (.slice xs) => some xs
  | .tip _ _ xs => some xs
  | .nil _ => some []
  | _ => none
def bytesOf (s : List UInt8) : List (List PV) := s.map fun b => [.int .u8 b.toNat]
/-- The elements that a slice, or a string, gives to an append. -/
def IV.src : IV → Option (List (List PV))
  | .p (.str s) => some (bytesOf s)
  | v => v.elems
def toBytes : List (List PV) → Option (List UInt8)
  | [] => some []
  | [.int .u8 n] :: r => (toBytes r).map (n.toNat.toUInt8 :: ·)
  | _ => none

def cmpInt (op : BinOp) (x y : Int) : Option Bool :=
  match op with
  | .eql => some (x == y)
  | .neq => some (x != y)
  | .lss => some (decide (x < y))
  | .leq => some (decide (x ≤ y))
  | .gtr => some (decide (x > y))
  | .geq => some (decide (x ≥ y))
  | _ => none
def arith (op : BinOp) (k : IntKind) (x y : Int) : Option Int :=
  match op with
  | .add => some (k.wrap (x + y))
  | .sub => some (k.wrap (x - y))
  | .mul => some (k.wrap (x * y))
  | .quo => if y = 0 then none else some (k.wrap (x.tdiv y))
  | .rem => if y = 0 then none else some (x.tmod y)
  | .and => some (k.wrap (BitVec.ofInt k.bits x &&& BitVec.ofInt k.bits y).toNat)
  | .xor => some (k.wrap (BitVec.ofInt k.bits x ^^^ BitVec.ofInt k.bits y).toNat)
  | _ => none
def binPV (op : BinOp) : PV → PV → Option PV
  | .int k x, .int k' y =>
    match op with
    | .shl => if y < 0 then none else some (.int k (k.wrap (x * 2 ^ (min y.toNat k.bits))))
    | .shr => if y < 0 then none else some (.int k (x.fdiv (2 ^ (min y.toNat k.bits))))
    | _ => if k = k' then (match cmpInt op x y with
      | some b => some (.bool b)
      | none => (arith op k x y).map (.int k)) else none
  | .str x, .str y =>
    match op with
    | .add => if x.length + y.length ≤ 9223372036854775807 then some (.str (x ++ y)) else none
    | .eql => some (.bool (x == y))
    | .neq => some (.bool (!(x == y)))
    | .lss => some (.bool (Op.bytesLess x y))
    | .geq => some (.bool (!(Op.bytesLess x y)))
    | _ => none
  | _, _ => none
def binB (op : BinOp) (x y : Bool) : Option Bool :=
  match op with
  | .eql => some (x == y)
  | .neq => some (!(x == y))
  | _ => none
def unPV (op : UnOp) : PV → Option PV
  | .bool b => match op with
    | .not => some (.bool (!b))
    | _ => none
  | .int k n => match op with
    | .neg => some (.int k (k.wrap (0 - n)))
    | _ => none
  | _ => none

/-- How an argument is handed over: as plain data; as an owned row; as a struct, a pointer to a variable, with owned rows; as a row that is written in place; what it leads to lent for the time of the call. -/
inductive Mode where
  | fz
  | ow
  | ag (fl : List Bool)
  | io (fl : List Bool)
  | mu
  | cz

inductive AK where
  | mv (x : Opd)
  | asg (x : Opd)
  | asm (x : Opd)
  | asgo (x : Opd)
  | pick (c a b : Opd)
  | bin (op : BinOp) (x y : Opd)
  | bnb (op : BinOp) (x y : Opd)
  | un (op : UnOp) (x : Opd)
  | fa (x : Opd) (off : Nat)
  | ia (x i : Opd) (sz : Nat)
  | iam (x i : Opd) (sz : Nat)
  | ld (x : Opd) (sz : Nat) (ag : Bool)
  | ldm (x : Opd) (sz : Nat) (ag : Bool)
  | st (x y : Opd) (sz : Nat) (s : Nat)
  | stm (x y : Opd) (sz : Nat)
  | stn (x y : Opd) (sz : Nat) (s : Nat)
  | al (zero : List IV)
  | bx (x : Opd) (sz : Nat)
  | bs (sz : Nat) (xs : List Opd)
  | bm (sz : Nat) (xs : List Opd)
  | bd (zero : List IV) (parts : List (Nat × Nat × Opd))
  | ex (x : Opd) (i : Nat)
  | nc (x : Opd)
  | ix (x i : Opd)
  | ss (x : Opd) (lo hi : Option Opd)
  | sl (x : Opd) (lo hi : Option Opd) (sz : Nat)
  | cvi (k : IntKind) (x : Opd)
  | cvs (x : Opd)
  | len (x : Opd)
  | lenm (x : Opd)
  | lens (x : Opd)
  | app (x y : Opd) (sz bytes : Nat)
  | mx (x y : Opd)
  | mf (f : FuncId) (caps : List Opd)
  | mk (n : Opd) (sz bytes : Nat) (zero : List PV)
  | fld (x : Opd) (off sz : Nat) (ag : Bool)
  | call (f : FuncId) (args : List (Opd × Mode))
  | callv (x : Opd) (args : List Opd)

structure AO where
  dst : Option Nat
  k : AK
  g : Option (Nat × Bool) := none
  vb : Vis := .but []
  vl : Vis := .but []

structure Res where
  v : IV
  bx : List (Nat × List IV) := []
  tls : List (Tag × Nat × RK) := []

def AS.setBs (σ : AS) : List (Nat × List IV) → AS
  | [] => σ
  | (s, cs) :: r => (σ.setB s cs).setBs r
def AS.setLs (σ : AS) : List (Tag × Nat × RK) → AS
  | [] => σ
  | (g, x) :: r => (σ.setL g x).setLs r
def AS.app (σ : AS) (dst : Option Nat) (r : Res) : AS :=
  let σ' := (σ.setBs r.bx).setLs r.tls
  match dst with
  | some d => σ'.setT d r.v
  | none => σ'

/-- nil slices among the cells of a new variable are rows of its own. -/
def tipCells (d : Nat) : Nat → List IV → List IV × List (Tag × Nat × RK)
  | _, [] => ([], [])
  | i, x :: xs =>
    let r := tipCells d (i + 1) xs
    match x with
    | .nil sz => (.tip (1, d, i) 0 [] :: r.1, ((1, d, i), 0, .tip 0 sz) :: r.2)
    | _ => (x :: r.1, r.2)
def AS.freshL (σ : AS) (l : List (Tag × Nat × RK)) : Bool := l.all fun x => (σ.tl x.1).isNone

/-- Cells from place o on are replaced. -/
def putCells (cs : List IV) (o : Nat) (ys : List IV) : Option (List IV) :=
  if o + ys.length ≤ cs.length then some (cs.take o ++ ys ++ cs.drop (o + ys.length)) else none
def fillParts (σ : AS) : List IV → List (Nat × Nat × Opd) → Option (List IV)
  | cs, [] => some cs
  | cs, (o, n, x) :: r => match (σ.val x).cells with
    | some ys => if ys.length = n then (match putCells cs o ys with
      | some cs' => fillParts σ cs' r
      | none => none) else none
    | none => none
def elemsOf (σ : AS) (sz : Nat) : List Opd → Option (List (List PV))
  | [] => some []
  | x :: xs => match (σ.val x).cells with
    | some ys => (match fzL ys, elemsOf σ sz xs with
      | some e, some es => if e.length = sz then some (e :: es) else none
      | _, _ => none)
    | none => none
def bound? (σ : AS) (n : Nat) : Option Opd → Option Nat
  | none => some n
  | some x => match (σ.val x).int? with
    | some i => if 0 ≤ i then some i.toNat else none
    | none => none
def oneOrAgg (ag : Bool) (cs : List IV) : Option IV :=
  if ag then some (.agg cs) else match cs with
    | [c] => some c
    | _ => none
def oneOrAggP (ag : Bool) (cs : List PV) : Option IV :=
  if ag then some (.p (.agg cs)) else match cs with
    | [c] => some (.p c)
    | _ => none

/-- How often a row's name has been given. -/
def AS.rev (σ : AS) (g : Tag) : Nat := match σ.tl g with
  | some (n, _) => n + 1
  | none => 0
/-- nil slices that are put into a variable begin rows of its own. -/
def nilCells (rev : Tag → Nat) (s : Nat) : Nat → List IV → List IV × List (Tag × Nat × RK)
  | _, [] => ([], [])
  | i, x :: xs =>
    let r := nilCells rev s (i + 1) xs
    match x with
    | .nil sz => (.tip (3, s, i) (rev (3, s, i)) [] :: r.1, ((3, s, i), rev (3, s, i), .tip 0 sz) :: r.2)
    | _ => (x :: r.1, r.2)
/-- What an operation that calls nothing comes to; d: where its result goes. -/
def evK (σ : AS) (d : Nat) : AK → Option Res
  | .mv x => some { v := σ.val x }
  | .asg x => match σ.val x with
    | .nil sz => if (σ.tl (0, d, 0)).isNone then some { v := .tip (0, d, 0) 0 [], tls := [((0, d, 0), 0, .tip 0 sz)] } else none
    | v => some { v := v }
  | .asm x => match σ.val x with
    | .nil sz => if (σ.tl (0, d, 0)).isNone then some { v := .mo (0, d, 0) 0, tls := [((0, d, 0), 0, .mo sz [])] } else none
    | _ => none
  | .asgo x => match σ.val x with
    | .tip g r xs => (match σ.tl g with
      | some (r', .tip n sz) => if g = (0, d, 0) then some { v := .tip g r xs } else (if r = r' ∧ n = xs.length then
          some { v := .tip (0, d, 0) (σ.rev (0, d, 0)) xs, tls := [(g, r + 1, .spent), ((0, d, 0), σ.rev (0, d, 0), .tip n sz)] } else none)
      | _ => none)
    | .nil sz => some { v := .tip (0, d, 0) (σ.rev (0, d, 0)) [], tls := [((0, d, 0), σ.rev (0, d, 0), .tip 0 sz)] }
    | _ => none
  | .pick c a b => match σ.val c with
    | .p (.bool x) => some { v := if x then σ.val a else σ.val b }
    | _ => none
  | .bin op x y => match σ.val x, σ.val y with
    | .p a, .p b => (binPV op a b).map fun v => { v := .p v }
    | _, _ => none
  | .bnb op x y => match σ.val x, σ.val y with
    | .p (.bool a), .p (.bool b) => (binB op a b).map fun v => { v := .p (.bool v) }
    | _, _ => none
  | .un op x => match σ.val x with
    | .p a => (unPV op a).map fun v => { v := .p v }
    | _ => none
  | .fa x off => match σ.val x with
    | .ptr s o => some { v := .ptr s (o + off) }
    | .p (.cptr cs) => if off ≤ cs.length then some { v := .p (.cptr (cs.drop off)) } else none
    | _ => none
  | .ia x i sz => match (σ.val i).int? with
    | some n =>
      if 0 ≤ n then (match (σ.val x).elems with
        | some xs => (match xs[n.toNat]? with
          | some e => if e.length = sz then some { v := .p (.cptr e) } else none
          | none => none)
        | none => none) else none
    | none => none
  | .iam x i sz => match (σ.val i).int? with
    | some n =>
      if 0 ≤ n then (match σ.val x with
        | .mo g r => (match σ.tl g with
          | some (r', .mo sz' es) => if r = r' ∧ n.toNat < es.length ∧ sz' = sz then some { v := .mp g r (n.toNat * sz) } else none
          | _ => none)
        | _ => none) else none
    | none => none
  | .ld x sz ag => match σ.val x with
    | .ptr s o => (match σ.box s with
      | some cs => if o + sz ≤ cs.length then (oneOrAgg ag ((cs.drop o).take sz)).map fun v => { v := v } else none
      | none => none)
    | .p (.cptr cs) => if sz ≤ cs.length then (oneOrAggP ag (cs.take sz)).map fun v => { v := v } else none
    | _ => none
  | .ldm x sz ag => match σ.val x with
    | .mp g r o => (match σ.tl g with
      | some (r', .mo sz' es) => if r = r' ∧ 0 < sz' ∧ o % sz' + sz ≤ sz' then (match es[o / sz']? with
        | some e => (oneOrAggP ag ((e.drop (o % sz')).take sz)).map fun v => { v := v }
        | none => none) else none
      | _ => none)
    | _ => none
  | .st x y sz s' => match σ.val x, (σ.val y).cells with
    | .ptr s o, some ys => if s = s' ∧ ys.length = sz then (match σ.box s with
      | some cs => (putCells cs o ys).map fun cs' => { v := .undef, bx := [(s, cs')] }
      | none => none) else none
    | _, _ => none
  | .stn x y sz s' => match σ.val x, (σ.val y).cells with
    | .ptr s o, some ys => if s = s' ∧ ys.length = sz then (match σ.box s with
      | some cs => (putCells cs o (nilCells σ.rev s o ys).1).map fun cs' => { v := .undef, bx := [(s, cs')], tls := (nilCells σ.rev s o ys).2 }
      | none => none) else none
    | _, _ => none
  | .stm x y sz => match σ.val x, (σ.val y).cells with
    | .mp g r o, some ys => (match σ.tl g, fzL ys with
      | some (r', .mo sz' es), some vs => if r = r' ∧ 0 < sz' ∧ o % sz' + sz ≤ sz' ∧ vs.length = sz then (match es[o / sz']? with
        | some e => some { v := .undef, tls := [(g, r, .mo sz' (es.set (o / sz') (e.take (o % sz') ++ vs ++ e.drop (o % sz' + sz))))] }
        | none => none) else none
      | _, _ => none)
    | _, _ => none
  | .al zero =>
    let r := tipCells d 0 zero
    if (σ.box d).isNone && σ.freshL r.2 then some { v := .ptr d 0, bx := [(d, r.1)], tls := r.2 } else none
  | .bx x sz => match (σ.val x).cells with
    | some ys =>
      let r := tipCells d 0 ys
      if ys.length = sz && (σ.box d).isNone && σ.freshL r.2 then some { v := .ptr d 0, bx := [(d, r.1)], tls := r.2 } else none
    | none => none
  | .bs sz xs => match elemsOf σ sz xs with
    | some es => if (σ.tl (0, d, 0)).isNone then some { v := .tip (0, d, 0) 0 es, tls := [((0, d, 0), 0, .tip es.length sz)] } else none
    | none => none
  | .bm sz xs => match elemsOf σ sz xs with
    | some es => if (σ.tl (0, d, 0)).isNone then some { v := .mo (0, d, 0) 0, tls := [((0, d, 0), 0, .mo sz es)] } else none
    | none => none
  | .bd zero parts => (fillParts σ zero parts).map fun cs => { v := .agg cs }
  | .ex x i => match σ.val x with
    | .tup cs => (cs[i]?).map fun v => { v := v }
    | .p (.tup vs) => (vs[i]?).map fun v => { v := .p v }
    | _ => none
  | .nc x => match σ.val x with
    | .ptr s o => some { v := .ptr s o }
    | .p (.cptr cs) => some { v := .p (.cptr cs) }
    | _ => none
  | .ix x i => match σ.val x, (σ.val i).int? with
    | .p (.str s), some n => if 0 ≤ n then (match s[n.toNat]? with
      | some b => some { v := .p (.int .u8 b.toNat) }
      | none => none) else none
    | _, _ => none
  | .ss x lo hi => match σ.val x with
    | .p (.str s) => (match bound? σ 0 lo, bound? σ s.length hi with
      | some l, some h => if l ≤ h ∧ h ≤ s.length then some { v := .p (.str ((s.take h).drop l)) } else none
      | _, _ => none)
    | _ => none
  | .sl x lo hi sz => match (σ.val x).elems with
    | some xs => (match bound? σ 0 lo, bound? σ xs.length hi with
      | some l, some h => if l ≤ h ∧ h ≤ xs.length ∧ ∀ e ∈ xs, e.length = sz then some { v := .p (.slice ((xs.take h).drop l)) } else none
      | _, _ => none)
    | none => none
  | .cvi k x => match σ.val x with
    | .p (.int _ n) => some { v := .p (.int k (k.wrap n)) }
    | _ => none
  | .cvs x => match (σ.val x).elems with
    | some xs => (toBytes xs).map fun s => { v := .p (.str s) }
    | none => none
  | .lens x => match σ.val x with
    | .p (.str s) => some { v := .p (.int .i64 s.length) }
    | _ => none
  | .len x => ((σ.val x).elems).map fun xs => { v := .p (.int .i64 xs.length) }
  | .lenm x => match σ.val x with
    | .mo g r => (match σ.tl g with
      | some (r', .mo _ es) => if r = r' then some { v := .p (.int .i64 es.length) } else none
      | _ => none)
    | _ => none
  | .app x y sz bytes =>
    match (σ.val y).src with
    | none => none
    | some ys =>
      if ∀ e ∈ ys, e.length = sz then (match σ.val x with
        | .tip g r xs => (match σ.tl g with
          | some (r', .tip n sz') => if r = r' ∧ n = xs.length ∧ sz = sz' ∧ (xs.length + ys.length) * bytes ≤ 140737488355328 then
            some { v := .tip g r (xs ++ ys), tls := [(g, r, .tip (xs.length + ys.length) sz)] } else none
          | _ => none)
        | .mo g r => (match σ.tl g with
          | some (r', .mo sz' es) => if r = r' ∧ sz = sz' ∧ (es.length + ys.length) * bytes ≤ 140737488355328 then
            some { v := .mo g (r + 1), tls := [(g, r + 1, .mo sz (es ++ ys))] } else none
          | _ => none)
        | .nil _ => if (σ.tl (0, d, 0)).isNone ∧ ys.length * bytes ≤ 140737488355328 then
            some { v := .tip (0, d, 0) 0 ys, tls := [((0, d, 0), 0, .tip ys.length sz)] } else none
        | _ => none) else none
  | .mx x y => match σ.val x, σ.val y with
    | .p (.int k a), .p (.int _ b) => some { v := .p (.int k (if b > a then b else a)) }
    | _, _ => none
  | .mf f caps => some { v := .clo f (caps.map σ.val) }
  | .mk n sz bytes zero => match (σ.val n).int? with
    | some m => if 0 ≤ m ∧ m.toNat * bytes ≤ 140737488355328 ∧ zero.length = sz ∧ 0 < sz ∧ (σ.tl (0, d, 0)).isNone then
        some { v := .mo (0, d, 0) 0, tls := [((0, d, 0), 0, .mo sz (List.replicate m.toNat zero))] } else none
    | none => none
  | .fld x off sz ag => match (σ.val x).aggs with
    | some cs => if off + sz ≤ cs.length then (oneOrAgg ag ((cs.drop off).take sz)).map fun v => { v := v } else none
    | none => none
  | .call _ _ => none
  | .callv _ _ => none

/-! ### Calls -/

/-- A cell, as it is handed over: owned or as plain data. -/
def IV.leaf (own : Bool) (σ : AS) : IV → Option OL
  | .tip g r xs => if own then (match σ.tl g with
      | some (r', .tip n sz) => if r = r' ∧ n = xs.length then some (.ow sz xs) else none
      | _ => none) else some (.fz (.slice xs))
  | .nil sz => if own then some (.ow sz []) else some (.fz (.slice []))
  | .p v => if own then none else some (.fz v)
  | _ => none
/-- A row that may be written. -/
def IV.moLeaf (σ : AS) : IV → Option (Nat × List (List PV))
  | .mo g r => match σ.tl g with
    | some (r', .mo sz es) => if r = r' then some (sz, es) else none
    | _ => none
  | _ => none
/-- What a closure leads to: plain values, and variables as they now stand. -/
def capOf (σ : AS) : List IV → Option (List PV)
  | [] => some []
  | .ptr s 0 :: r => match σ.box s with
    | some cs => (match fzL cs, capOf σ r with
      | some vs, some rs => some (.cptr vs :: rs)
      | _, _ => none)
    | none => none
  | .p v :: r => (capOf σ r).map (v :: ·)
  | _ => none
def leaves (σ : AS) : List Bool → List IV → Option (List OL)
  | [], [] => some []
  | b :: bs, x :: xs => match x.leaf b σ, leaves σ bs xs with
    | some o, some os => some (o :: os)
    | _, _ => none
  | _, _ => none
/-- An argument, as it is handed over. -/
def argOf (σ : AS) (x : IV) : Mode → Option OV
  | .fz => (x.fz).map fun v => .l (.fz v)
  | .ow => (x.leaf true σ).map .l
  | .ag fl => match x.aggs with
    | some cs => (leaves σ fl cs).map .agg
    | none => none
  | .io fl => match x with
    | .ptr s 0 => (match σ.box s with
      | some cs => (leaves σ fl cs).map .ptr
      | none => none)
    | _ => none
  | .mu => (x.moLeaf σ).map fun y => .l (.mu y.1 y.2)
  | .cz => match x with
    | .clo f caps => (capOf σ caps).map fun vs => .l (.fz (.clo f vs))
    | _ => (x.moLeaf σ).map fun y => .l (.fz (.slice y.2))
def argsOf (σ : AS) : List (Opd × Mode) → Option (List OV)
  | [] => some []
  | (x, m) :: r => match argOf σ (σ.val x) m, argsOf σ r with
    | some o, some os => some (o :: os)
    | _, _ => none
/-- The rows that go with the arguments. -/
def tipsIn : List Bool → List IV → List Tag
  | true :: bs, .tip g _ _ :: xs => g :: tipsIn bs xs
  | _ :: bs, _ :: xs => tipsIn bs xs
  | _, _ => []
def goneOf (σ : AS) : List (Opd × Mode) → List Tag
  | [] => []
  | (x, m) :: r => (match m, σ.val x with
    | .ow, .tip g _ _ => [g]
    | .ag fl, .agg cs => tipsIn fl cs
    | .io fl, .ptr s _ => (match σ.box s with
      | some cs => tipsIn fl cs
      | none => [])
    | _, _ => []) ++ goneOf σ r
/-- All that is handed over: variables, rows. -/
def keysOf (σ : AS) : List (Opd × Mode) → List (Nat ⊕ Tag)
  | [] => []
  | (x, m) :: r => (match m, σ.val x with
    | .ow, .tip g _ _ => [.inr g]
    | .ag fl, .agg cs => (tipsIn fl cs).map .inr
    | .io fl, .ptr s _ => (match σ.box s with
      | some cs => .inl s :: (tipsIn fl cs).map .inr
      | none => [])
    | .mu, .mo g _ => [.inr g]
    | _, _ => []) ++ keysOf σ r
/-- What comes back in place: a variable, a row. -/
def sitesOf (σ : AS) : List (Opd × Mode) → List (Nat ⊕ Tag × Nat)
  | [] => []
  | (x, m) :: r => (match m, σ.val x with
    | .io _, .ptr s _ => [.inl s]
    | .mu, .mo g n => [.inr (g, n)]
    | _, _ => []) ++ sitesOf σ r

/-- A cell that comes back: its row gets the tag g. -/
def backL (g : Tag) (n : Nat) : OL → IV × List (Tag × Nat × RK)
  | .fz v => (.p v, [])
  | .ow sz xs => (.tip g n xs, [(g, n, .tip xs.length sz)])
  | .mu sz xs => (.mo g n, [(g, n, .mo sz xs)])
def backC (rev : Tag → Nat) (k d : Nat) : Nat → List OL → List IV × List (Tag × Nat × RK)
  | _, [] => ([], [])
  | i, x :: xs =>
    let a := backL (k, d, i) (rev (k, d, i)) x
    let r := backC rev k d (i + 1) xs
    (a.1 :: r.1, a.2 ++ r.2)
/-- A result as it comes back to place d, its rows numbered from n on. -/
def backO (d n : Nat) : OV → Res
  | .l x => let a := backL (0, d, n) 0 x
    { v := a.1, tls := a.2 }
  | .agg cs => let a := backC (fun _ => 0) 2 d n cs
    { v := .agg a.1, tls := a.2 }
  | .ptr cs => let a := backC (fun _ => 0) 1 d 0 cs
    { v := .ptr d 0, bx := [(d, a.1)], tls := a.2 }
def backOs (d : Nat) : Nat → List OV → List IV × List (Nat × List IV) × List (Tag × Nat × RK)
  | _, [] => ([], [], [])
  | n, x :: xs =>
    let a := backO d n x
    let r := backOs d (n + 100) xs
    (a.v :: r.1, a.bx ++ r.2.1, a.tls ++ r.2.2)
def backR (d : Nat) : RV → Res
  | .one x => backO d 0 x
  | .tup xs => let a := backOs d 0 xs
    { v := .tup a.1, bx := a.2.1, tls := a.2.2 }
/-- The variables and rows that were handed over hold what the call left in them: the variables, the rows that may be written, the rows in the variables. -/
def backBx (rev : Tag → Nat) : List (Nat ⊕ Tag × Nat) → List OV → Option (List (Nat × List IV) × List (Tag × Nat × RK) × List (Tag × Nat × RK))
  | [], [] => some ([], [], [])
  | .inl s :: ss, .ptr cs :: os => match backBx rev ss os with
    | some r => let a := backC rev 1 s 0 cs
      some ((s, a.1) :: r.1, r.2.1, a.2 ++ r.2.2)
    | none => none
  | .inr (g, n) :: ss, .l (.mu sz xs) :: os => match backBx rev ss os with
    | some r => some (r.1, (g, n, .mo sz xs) :: r.2.1, r.2.2)
    | none => none
  | _, _ => none
def AS.spentL (σ : AS) (gs : List Tag) : List (Tag × Nat × RK) := gs.map fun g => (g, σ.rev g, .spent)
def PV.scalar : PV → Bool
  | .int _ _ => true
  | .bool _ => true
  | .str _ => true
  | _ => false
def RV.scalar : RV → Bool
  | .one (.l (.fz v)) => v.scalar
  | _ => false
def lent (args : List (Opd × Mode)) : Bool := args.any fun x => match x.2 with
  | .cz => true
  | _ => false

/-- What a call leaves, when its function gives r and leaves outs in what it was handed. -/
def callRes (σ : AS) (d : Nat) (args : List (Opd × Mode)) (r : RV) (outs : List OV) : Option Res :=
  match backBx (fun g => σ.rev g + 1) (sitesOf σ args) outs with
  | some b =>
    let x := backR d r
    if x.bx.all (fun y => (σ.box y.1).isNone) = true ∧ (x.bx.map (·.1)).Nodup ∧ σ.freshL x.tls = true ∧ ((b.2.2 ++ x.tls).map (·.1)).Nodup ∧ (keysOf σ args).Nodup ∧ (lent args = true → r.scalar = true ∧ keysOf σ args = []) then
      some { v := x.v, bx := b.1 ++ x.bx, tls := σ.spentL (goneOf σ args) ++ b.2.1 ++ b.2.2 ++ x.tls }
    else none
  | none => none

def fnOf : IV → Option (FuncId × List PV)
  | .clo f [] => some (f, [])
  | .p (.clo f caps) => some (f, caps)
  | _ => none

/-! ### Code -/

inductive AC where
  | skip
  | bad
  | reg (dr : Bool) (ops : List AO)
  | seq (a b : AC)
  | cond (x : Opd) (a b : AC)
  | block (id : Nat) (c : AC)
  | loop (c : AC)
  | wk (c : AC)
  | exit (id : Nat)
  | ret

inductive AX where
  | normal
  | exit (id : Nat)
  | ret

section
variable (E : FuncId → List OV → RV → List OV → Prop)

def stepK (σ : AS) (d : Nat) (k : AK) (R : Res → Prop) : Prop :=
  match k with
  | .call f args => match argsOf σ args with
    | some os => ∃ r outs, E f os r outs ∧ (match callRes σ d args r outs with
      | some x => R x
      | none => False)
    | none => False
  | .callv x args => match fnOf (σ.val x), argsOf σ (args.map fun y => (y, .fz)) with
    | some (f, caps), some os => ∃ r, E f (os ++ caps.map fun v => .l (.fz v)) r [] ∧ (match callRes σ d [] r [] with
      | some x => R x
      | none => False)
    | _, _ => False
  | k => match evK σ d k with
    | some x => R x
    | none => False

/-- One operation: what holds behind it holds. -/
def awOp (o : AO) (Q : AS → Prop) (σ : AS) : Prop :=
  match o.g with
  | none => stepK E (σ.see o.vb o.vl) (o.dst.getD 0) o.k fun r => Q (σ.app o.dst r)
  | some (t, want) => match σ.tmp t with
    | .p (.bool b) => if b = want then stepK E (σ.see o.vb o.vl) (o.dst.getD 0) o.k fun r => Q (σ.app o.dst r) else Q (σ.app o.dst { v := .p (.tup []) })
    | .p (.tup []) => Q (σ.app o.dst { v := .p (.tup []) })
    | _ => False
def awOps : List AO → (AS → Prop) → AS → Prop
  | [], Q, σ => Q σ
  | o :: os, Q, σ => awOp E o (awOps os Q) σ
end

def AK.news (d : Nat) : AK → List Nat
  | .asg (.nl _) => [d]
  | .asm _ => [d]
  | .al _ => [d]
  | .bx _ _ => [d]
  | .bs _ _ => [d]
  | .bm _ _ => [d]
  | .app (.nl _) _ _ _ => [d]
  | .mk _ _ _ _ => [d]
  | .call _ _ => [d]
  | .callv _ _ => [d]
  | _ => []
def newsOf (ops : List AO) : List Nat := ops.flatMap fun o => match o.dst with
  | some d => o.k.news d
  | none => []

mutual
/-- Everything that is named is there. -/
def IV.refs (b : Nat → Bool) (t : Tag → Bool) : IV → Bool
  | .p _ => true
  | .undef => true
  | .nil _ => true
  | .tip g _ _ => t g
  | .mo g _ => t g
  | .mp g _ _ => t g
  | .ptr s _ => b s
  | .agg cs => IV.refsL b t cs
  | .tup cs => IV.refsL b t cs
  | .clo _ cs => IV.refsL b t cs
def IV.refsL (b : Nat → Bool) (t : Tag → Bool) : List IV → Bool
  | [] => true
  | x :: xs => x.refs b t && IV.refsL b t xs
end
def AS.ref (σ : AS) (x : IV) : Bool := x.refs (fun s => (σ.box s).isSome) (fun g => (σ.tl g).isSome)

/-- y says no more than x: the same, or as plain data. -/
def IV.Le (x y : IV) : Prop := x = y ∨ ∃ v, x.fz = some v ∧ y = .p v
def IV.LeL : List IV → List IV → Prop
  | [], [] => True
  | x :: xs, y :: ys => x.Le y ∧ IV.LeL xs ys
  | _, _ => False
/-- σ' says less than σ. -/
structure Wk (np : Nat) (σ σ' : AS) : Prop where
  mk ::
  tmp : ∀ t, σ'.tmp t = .undef ∨ ((σ.tmp t).Le (σ'.tmp t) ∧ σ'.ref (σ'.tmp t) = true)
  box : ∀ s cs, σ'.box s = some cs → ∃ cs0, σ.box s = some cs0 ∧ IV.LeL cs0 cs ∧ ∀ x ∈ cs, σ'.ref x = true
  tl : ∀ g x, σ'.tl g = some x → σ.tl g = some x
  pinb : ∀ s, s < np → (σ.box s).isSome = true → (σ'.box s).isSome = true
  pinv : ∀ s, s < np → σ'.tl (0, s, 0) = σ.tl (0, s, 0)

section
variable (E : FuncId → List OV → RV → List OV → Prop) (np : Nat)
/-- WHAT A BODY COMES TO: Q holds wherever it ends. -/
def aw : AC → (AX → AS → Prop) → AS → Prop
  | .skip, Q, σ => Q .normal σ
  | .bad, Q, σ => False
  | .reg _ ops, Q, σ => awOps E ops (Q .normal) (σ.kill (newsOf ops))
  | .seq a b, Q, σ => aw a (fun e σ' => match e with
    | .normal => aw b Q σ'
    | e => Q e σ') σ
  | .cond x a b, Q, σ => match σ.val x with
    | .p (.bool t) => if t then aw a Q σ else aw b Q σ
    | _ => False
  | .block id c, Q, σ => aw c (fun e σ' => match e with
    | .exit i => if i = id then Q .normal σ' else Q (.exit i) σ'
    | e => Q e σ') σ
  | .loop c, Q, σ => ∃ (ι : Type) (S : ι → AS) (μ : ι → Nat) (i : ι), Wk np σ (S i) ∧ ∀ i, aw c (fun e σ' => match e with
    | .normal => ∃ j, μ j < μ i ∧ Wk np σ' (S j)
    | e => Q e σ') (S i)
  | .wk c, Q, σ => ∃ σ', Wk np σ σ' ∧ aw c Q σ'
  | .exit id, Q, σ => Q (.exit id) σ
  | .ret, Q, σ => Q .ret σ
end

end Go.Proofs.Ytfhgjhchjekbgaa
set_option linter.unusedVariables false
set_option linter.unusedSimpArgs false
namespace Go.Proofs.Ytfhgjhchjekbgaa
open Go

/-- What is not said in an abstract state: the marks, where variables lie, the values of rows. -/
structure Gh where
  K : Nat → Nat
  ρ : Nat → Nat
  V : Tag → Value

inductive IRel (G : Gh) (box : Nat → Option (List IV)) (tl : Tag → Option (Nat × RK)) (w : World) : Value → IV → Prop where
  | p {v : Value} {x : PV} (h : Rep G.K w v x) : IRel G box tl w v (.p x)
  | undef (v : Value) : IRel G box tl w v .undef
  | nil (sz : Nat) : IRel G box tl w (.slice none 0 0) (.nil sz)
  | tip {v : Value} (g : Tag) (r : Nat) (xs : List (List PV)) (n : Nat) (k : RK) (h : Rep G.K w v (.slice xs)) (ht : tl g = some (n, k)) (hr : r ≤ n)
      (hv : r = n → ∀ m sz, k = .tip m sz → (∀ e ∈ xs, e.length = sz) ∧ xs.length ≤ m ∧ (xs.length = m → v = G.V g)) : IRel G box tl w v (.tip g r xs)
  | mo {v : Value} (g : Tag) (r n : Nat) (k : RK) (h1 : v.oneCell' = true) (ht : tl g = some (n, k)) (hr : r ≤ n) (hv : r = n → ∀ sz es, k = .mo sz es → v = G.V g) : IRel G box tl w v (.mo g r)
  | mp {v : Value} (g : Tag) (r off n : Nat) (k : RK) (h1 : v.oneCell' = true) (ht : tl g = some (n, k)) (hr : r ≤ n)
      (hv : r = n → ∀ sz es, k = .mo sz es → ∃ b, (G.V g).ownBlock = some b ∧ v = .pointer (some ⟨b, off, none⟩)) : IRel G box tl w v (.mp g r off)
  | ptr (s off : Nat) (cs : List IV) (h : box s = some cs) : IRel G box tl w (.pointer (some ⟨G.ρ s, off, none⟩)) (.ptr s off)
  | agg (vs : Array Value) (cs : List IV) (f : Nat → Value) (hl : vs.size = cs.length) (hc : ∀ (i : Nat) (c : IV), cs[i]? = some c → vs[i]? = some (f i))
      (h1 : ∀ (i : Nat) (c : IV), cs[i]? = some c → (f i).oneCell' = true) (hr : ∀ (i : Nat) (c : IV), cs[i]? = some c → IRel G box tl w (f i) c) : IRel G box tl w (.agg vs) (.agg cs)
  | tup (vs : Array Value) (cs : List IV) (f : Nat → Value) (hl : vs.size = cs.length) (hc : ∀ (i : Nat) (c : IV), cs[i]? = some c → vs[i]? = some (f i))
      (hr : ∀ (i : Nat) (c : IV), cs[i]? = some c → IRel G box tl w (f i) c) : IRel G box tl w (.tuple vs) (.tup cs)
  | clo (g : FuncId) (vs : Array Value) (cs : List IV) (f : Nat → Value) (hl : vs.size = cs.length) (hc : ∀ (i : Nat) (c : IV), cs[i]? = some c → vs[i]? = some (f i))
      (hr : ∀ (i : Nat) (c : IV), cs[i]? = some c → IRel G box tl w (f i) c) : IRel G box tl w (.func (.func g) #[] vs) (.clo g cs)

/-- What was known of a row speaks of what is known now. -/
def RK.leq (k k' : RK) (V V' : Value) : Prop :=
  match k' with
  | .spent => True
  | .tip m' sz' => ∃ m, k = .tip m sz' ∧ m ≤ m' ∧ (m = m' → V' = V)
  | .mo _ _ => (∃ sz es, k = .mo sz es) ∧ V' = V

theorem RK.leq_refl (k : RK) (V : Value) : k.leq k V V := by
  cases k with
  | spent => trivial
  | tip m sz => exact ⟨m, rfl, Nat.le_refl _, fun _ => rfl⟩
  | mo sz es => exact ⟨⟨sz, es, rfl⟩, rfl⟩

section
variable {G G' : Gh} {box box' : Nat → Option (List IV)} {tl tl' : Tag → Option (Nat × RK)} {w w' : World}

theorem IRel.mono {v : Value} {x : IV} (h : IRel G box tl w v x) (he : Ext G.K G'.K w w')
    (hb : ∀ s cs, box s = some cs → ∃ cs', box' s = some cs' ∧ G'.ρ s = G.ρ s)
    (ht : ∀ g n k, tl g = some (n, k) → ∃ n' k', tl' g = some (n', k') ∧ n ≤ n' ∧ (n = n' → k.leq k' (G.V g) (G'.V g))) : IRel G' box' tl' w' v x := by
  induction h with
  | p h => exact .p (h.ext he)
  | undef v => exact .undef v
  | nil sz => exact .nil sz
  | tip g r xs n k h h2 hr hv =>
    obtain ⟨n', k', h3, h4, h5⟩ := ht g n k h2
    refine .tip g r xs n' k' (h.ext he) h3 (Nat.le_trans hr h4) fun e m sz hk => ?_
    have e1 : r = n := by omega
    have e2 : n = n' := by omega
    have h6 := h5 e2
    subst hk
    obtain ⟨m0, rfl, h7, h8⟩ := h6
    obtain ⟨h11, h9, h10⟩ := hv e1 m0 sz rfl
    refine ⟨h11, Nat.le_trans h9 h7, fun e3 => ?_⟩
    have e4 : m0 = m := by omega
    rw [h8 e4]
    exact h10 (by omega)
  | mo g r n k h0 h2 hr hv =>
    obtain ⟨n', k', h3, h4, h5⟩ := ht g n k h2
    refine .mo g r n' k' h0 h3 (Nat.le_trans hr h4) fun e sz es hk => ?_
    have e1 : r = n := by omega
    have e2 : n = n' := by omega
    have h6 := h5 e2
    subst hk
    obtain ⟨⟨sz0, es0, rfl⟩, h7⟩ := h6
    rw [h7]
    exact hv e1 sz0 es0 rfl
  | mp g r off n k h0 h2 hr hv =>
    obtain ⟨n', k', h3, h4, h5⟩ := ht g n k h2
    refine .mp g r off n' k' h0 h3 (Nat.le_trans hr h4) fun e sz es hk => ?_
    have e1 : r = n := by omega
    have e2 : n = n' := by omega
    have h6 := h5 e2
    subst hk
    obtain ⟨⟨sz0, es0, rfl⟩, h7⟩ := h6
    rw [h7]
    exact hv e1 sz0 es0 rfl
  | ptr s off cs h =>
    obtain ⟨cs', h1, h2⟩ := hb s cs h
    rw [← h2]
    exact .ptr s off cs' h1
  | agg vs cs f hl hc h1 hr ih => exact .agg vs cs f hl hc h1 ih
  | tup vs cs f hl hc hr ih => exact .tup vs cs f hl hc ih
  | clo g vs cs f hl hc hr ih => exact .clo g vs cs f hl hc ih

theorem killL_get (S : List Nat) : ∀ (cs : List IV) (i : Nat), (IV.killL S cs)[i]? = (cs[i]?).map (IV.kill S)
  | [], i => by simp [IV.killL]
  | c :: cs, 0 => by simp [IV.killL]
  | c :: cs, i + 1 => by simp [IV.killL, killL_get S cs i]
theorem killL_length (S : List Nat) : ∀ (cs : List IV), (IV.killL S cs).length = cs.length
  | [] => rfl
  | c :: cs => by simp [IV.killL, killL_length S cs]

theorem IRel.kill (S : List Nat) {v : Value} {x : IV} (h : IRel G box tl w v x) :
    IRel G (fun s => if S.contains s then none else (box s).map (IV.killL S)) (fun g => if S.contains g.site then none else tl g) w v (x.kill S) := by
  induction h with
  | p h => exact .p h
  | undef v => exact .undef v
  | nil sz => exact .nil sz
  | tip g r xs n k h h2 hr hv =>
    unfold IV.kill
    split
    · exact .p h
    · rename_i hs
      exact .tip g r xs n k h (by simp only [hs]; exact h2) hr hv
  | mo g r n k h0 h2 hr hv =>
    unfold IV.kill
    split
    · exact .undef _
    · rename_i hs
      exact .mo g r n k h0 (by simp only [hs]; exact h2) hr hv
  | mp g r off n k h0 h2 hr hv =>
    unfold IV.kill
    split
    · exact .undef _
    · rename_i hs
      exact .mp g r off n k h0 (by simp only [hs]; exact h2) hr hv
  | ptr s off cs h =>
    unfold IV.kill
    split
    · exact .undef _
    · rename_i hs
      exact .ptr s off (IV.killL S cs) (by simp only [hs, h]; rfl)
  | agg vs cs f hl hc h1 hr ih =>
    refine .agg vs _ f (by rw [killL_length]; exact hl) (fun i c hi => ?_) (fun i c hi => ?_) (fun i c hi => ?_)
    all_goals
      rw [killL_get, Option.map_eq_some_iff] at hi
      obtain ⟨c0, h2, rfl⟩ := hi
    · exact hc i c0 h2
    · exact h1 i c0 h2
    · exact ih i c0 h2
  | tup vs cs f hl hc hr ih =>
    refine .tup vs _ f (by rw [killL_length]; exact hl) (fun i c hi => ?_) (fun i c hi => ?_)
    all_goals
      rw [killL_get, Option.map_eq_some_iff] at hi
      obtain ⟨c0, h2, rfl⟩ := hi
    · exact hc i c0 h2
    · exact ih i c0 h2
  | clo g vs cs f hl hc hr ih =>
    refine .clo g vs _ f (by rw [killL_length]; exact hl) (fun i c hi => ?_) (fun i c hi => ?_)
    all_goals
      rw [killL_get, Option.map_eq_some_iff] at hi
      obtain ⟨c0, h2, rfl⟩ := hi
    · exact hc i c0 h2
    · exact ih i c0 h2
end

/-- The frame of a call: how many temporaries, the world when it began, the blocks that were handed over, the marks of then. -/
structure Fr where
  nt : Nat
  W0 : World
  T : List Nat
  K0 : Nat → Nat
  np : Nat
  pb : List (Nat × Nat)
  pv : List (Tag × Value)

def RowOK (K : Nat → Nat) (w : World) (V : Value) : RK → Prop
  | .spent => True
  | .tip m sz => ∃ bl, Tip K w V m sz bl
  | .mo sz es => ∃ bl, RepL K w V (.mu sz es) bl

/-- The block that a variable or a row takes up. -/
def Gh.blk (G : Gh) (σ : AS) : Nat ⊕ Tag → Option Nat
  | .inl s => match σ.box s with
    | some _ => some (G.ρ s)
    | none => none
  | .inr g => match σ.tl g with
    | some (_, .tip _ _) => (G.V g).ownBlock
    | some (_, .mo _ _) => (G.V g).ownBlock
    | _ => none

def BoxOK (G : Gh) (box : Nat → Option (List IV)) (tl : Tag → Option (Nat × RK)) (w : World) (s : Nat) (cs : List IV) : Prop :=
  ∃ vs e, w.heap[G.ρ s]? = some (.cells vs e (0, 0)) ∧ cs.length ≤ vs.size ∧ ∀ (i : Nat) (c : IV), cs[i]? = some c → ∃ v, vs[i]? = some v ∧ v.oneCell' = true ∧ IRel G box tl w v c

/-- The abstract state σ is what the temporaries a and the world w hold. -/
structure Rel (F : Fr) (G : Gh) (σ : AS) (a : Act) (w : World) : Prop where
  mk ::
  defers : a.defers = []
  tsize : a.tmps.size = F.nt
  tmps : ∀ t, IRel G σ.box σ.tl w (a.tmps.getD t undef) (σ.tmp t)
  boxes : ∀ s cs, σ.box s = some cs → BoxOK G σ.box σ.tl w s cs
  rows : ∀ g n k, σ.tl g = some (n, k) → RowOK G.K w (G.V g) k
  disj : ∀ x y b, G.blk σ x = some b → G.blk σ y = some b → x = y
  boxK : ∀ s cs, σ.box s = some cs → G.K (G.ρ s) = 0
  mine : ∀ x b, G.blk σ x = some b → b ∈ F.T ∨ F.W0.heap.size ≤ b
  kok : KOK G.K w
  kold : ∀ b, b < F.W0.heap.size → b ∉ F.T → G.K b = F.K0 b
  ext : Ext F.K0 G.K F.W0 w
  keep : Keep (· ∈ F.T) F.W0 w
  pinb : ∀ s b, (s, b) ∈ F.pb → s < F.np ∧ (∃ cs, σ.box s = some cs) ∧ G.ρ s = b
  pinv : ∀ g V, (g, V) ∈ F.pv → g.site < F.np ∧ ∃ n k, σ.tl g = some (n, k) ∧ ∀ sz es, n = 0 → k = .mo sz es → G.V g = V
  pin2 : ∀ g V, (g, V) ∈ F.pv → g = (0, g.site, 0)

theorem Tip.own {K : Nat → Nat} {w : World} {v : Value} {n sz : Nat} {bl : List Nat} (h : Tip K w v n sz bl) : bl = v.ownBlock.toList := by
  cases h <;> rfl
theorem RepL.own_mu {K : Nat → Nat} {w : World} {v : Value} {sz : Nat} {es : List (List PV)} {bl : List Nat} (h : RepL K w v (.mu sz es) bl) : bl = v.ownBlock.toList := by
  cases h <;> rfl
theorem Tip.blockLt {K : Nat → Nat} {w : World} {v : Value} {n sz : Nat} {bl : List Nat} (h : Tip K w v n sz bl) {b : Nat} (hb : v.ownBlock = some b) : b < w.heap.size := by
  cases h with
  | nil => simp [Value.ownBlock] at hb
  | row b' _ cap _ cur e hg =>
    simp [Value.ownBlock] at hb
    subst hb
    exact (Array.getElem?_eq_some_iff.1 hg).1
theorem RepL.blockLt {K : Nat → Nat} {w : World} {v : Value} {sz : Nat} {es : List (List PV)} {bl : List Nat} (h : RepL K w v (.mu sz es) bl) {b : Nat} (hb : v.ownBlock = some b) : b < w.heap.size := by
  cases h with
  | muNil => simp [Value.ownBlock] at hb
  | mu b' n cap _ cur e _ f hg =>
    simp [Value.ownBlock] at hb
    subst hb
    exact (Array.getElem?_eq_some_iff.1 hg).1

section
variable {F : Fr} {G : Gh} {σ : AS} {a : Act} {w : World}

theorem Rel.blkLt (h : Rel F G σ a w) {x : Nat ⊕ Tag} {b : Nat} (hx : G.blk σ x = some b) : b < w.heap.size := by
  cases x with
  | inl s =>
    simp only [Gh.blk] at hx
    cases hb : σ.box s with
    | none => simp [hb] at hx
    | some cs =>
      simp [hb] at hx
      subst hx
      obtain ⟨vs, e, hg, _⟩ := h.boxes s cs hb
      exact (Array.getElem?_eq_some_iff.1 hg).1
  | inr g =>
    simp only [Gh.blk] at hx
    cases ht : σ.tl g with
    | none => simp [ht] at hx
    | some y =>
      obtain ⟨n, k⟩ := y
      have hr := h.rows g n k ht
      cases k with
      | spent => simp [ht] at hx
      | tip m sz =>
        simp [ht] at hx
        obtain ⟨bl, h2⟩ := hr
        exact h2.blockLt hx
      | mo sz es =>
        simp [ht] at hx
        obtain ⟨bl, h2⟩ := hr
        exact h2.blockLt hx

theorem eval_rel (h : Rel F G σ a w) : ∀ (x : Opd) (y : Operand), (match x, y with
      | .t n, .tmp m => n = m
      | .c v, .const u => ∀ K w', Rep K w' u v
      | .nl _, .const u => u = .slice none 0 0
      | .fn f, .func g => f = g
      | _, _ => False) → IRel G σ.box σ.tl w (a.eval y) (σ.val x) := by
  intro x y hxy
  cases x <;> cases y <;> simp only at hxy <;> try exact hxy.elim
  case t.tmp n m => subst hxy; exact h.tmps n
  case c.const v u => exact .p (hxy _ _)
  case nl.const sz u => subst hxy; exact .nil sz
  case fn.func f g =>
    subst hxy
    exact .clo f #[] [] (fun _ => undef) rfl (by simp) (by simp)

theorem Rel.setT (h : Rel F G σ a w) {d : Nat} (hd : d < F.nt) {v : Value} {x : IV} (hv : IRel G σ.box σ.tl w v x) : Rel F G (σ.setT d x) (a.put (some d) v) w := by
  refine ⟨h.defers, by simp [Act.put, h.tsize], fun t => ?_, h.boxes, h.rows, h.disj, h.boxK, h.mine, h.kok, h.kold, h.ext, h.keep, h.pinb, h.pinv, h.pin2⟩
  simp only [AS.setT, Act.put]
  by_cases ht : t = d
  · subst ht
    simp only [if_true]
    rw [show (a.tmps.setIfInBounds t v).getD t undef = v by simp [Array.getD, h.tsize, hd]]
    exact hv
  · rw [if_neg ht, show (a.tmps.setIfInBounds d v).getD t undef = a.tmps.getD t undef by
      simp only [Array.getD_eq_getD_getElem?, Array.getElem?_setIfInBounds_ne (Ne.symm ht)]]
    exact h.tmps t

/-- Nothing is said any more of the places S. -/
theorem Rel.kill (h : Rel F G σ a w) (S : List Nat) (hS : ∀ s ∈ S, F.np ≤ s) : Rel F G (σ.kill S) a w := by
  have hblk : ∀ x b, G.blk (σ.kill S) x = some b → G.blk σ x = some b := by
    intro x b hx
    cases x with
    | inl s =>
      simp only [Gh.blk, AS.kill] at hx ⊢
      by_cases hs : S.contains s = true
      · rw [if_pos hs] at hx
        cases hx
      · simp only [hs] at hx
        cases hb : σ.box s with
        | none => simp [hb] at hx
        | some cs => simpa [hb] using hx
    | inr g =>
      simp only [Gh.blk, AS.kill] at hx ⊢
      by_cases hs : S.contains g.site = true
      · rw [if_pos hs] at hx
        cases hx
      · simp only [hs] at hx
        exact hx
  refine ⟨h.defers, h.tsize, fun t => (h.tmps t).kill S, fun s cs hs => ?_, fun g n k hg => ?_, fun x y b hx hy => h.disj x y b (hblk x b hx) (hblk y b hy), fun s cs hs => ?_, fun x b hx => h.mine x b (hblk x b hx), h.kok, h.kold, h.ext, h.keep, fun s b hs => ?_, fun g V hg => ?_, h.pin2⟩
  · simp only [AS.kill] at hs
    split at hs
    · cases hs
    · rw [Option.map_eq_some_iff] at hs
      obtain ⟨cs0, h1, rfl⟩ := hs
      obtain ⟨vs, e, hg, hl, hc⟩ := h.boxes s cs0 h1
      refine ⟨vs, e, hg, by rw [killL_length]; exact hl, fun i c hi => ?_⟩
      rw [killL_get, Option.map_eq_some_iff] at hi
      obtain ⟨c0, h2, rfl⟩ := hi
      obtain ⟨v, h3, h4, h5⟩ := hc i c0 h2
      exact ⟨v, h3, h4, h5.kill S⟩
  · simp only [AS.kill] at hg
    split at hg
    · cases hg
    · exact h.rows g n k hg
  · simp only [AS.kill] at hs
    split at hs
    · cases hs
    · rw [Option.map_eq_some_iff] at hs
      obtain ⟨cs0, h1, rfl⟩ := hs
      exact h.boxK s cs0 h1
  · obtain ⟨h1, ⟨cs, h2⟩, h3⟩ := h.pinb s b hs
    refine ⟨h1, ⟨IV.killL S cs, ?_⟩, h3⟩
    have hn : S.contains s = false := by
      cases hc : S.contains s with
      | false => rfl
      | true =>
        have := hS s (by simpa using hc)
        omega
    simp only [AS.kill, hn, h2]
    rfl
  · obtain ⟨h1, n, k, h2, h3⟩ := h.pinv g V hg
    refine ⟨h1, n, k, ?_, h3⟩
    have hn : S.contains g.site = false := by
      cases hc : S.contains g.site with
      | false => rfl
      | true =>
        have := hS g.site (by simpa using hc)
        omega
    simp only [AS.kill, hn]
    exact h2
end

end Go.Proofs.Ytfhgjhchjekbgaa
set_option linter.unusedVariables false
set_option linter.unusedSimpArgs false
namespace Go.Proofs.Ytfhgjhchjekbgaa
open Go

/-- The operation runs through: v in world w' is what it leaves. -/
def Does (P : Program) (o : Oper) (a : Act) (w : World) (v : Value) (w' : World) : Prop :=
  (execOp a.eval o).run P w = .ok (.value v) w' ∨ ((execOp a.eval o).run P w = .ok .skip w' ∧ v = undef)

structure AS.le (σh σ : AS) : Prop where
  mk ::
  tmp : σh.tmp = σ.tmp
  box : ∀ s cs, σh.box s = some cs → σ.box s = some cs
  tl : ∀ g x, σh.tl g = some x → σ.tl g = some x
theorem AS.le.val {σh σ : AS} (h : σh.le σ) (x : Opd) : σh.val x = σ.val x := by
  cases x <;> simp [AS.val, h.tmp]
theorem AS.see_le (σ : AS) (vb vl : Vis) : (σ.see vb vl).le σ := by
  refine ⟨rfl, fun s cs h => ?_, fun g x h => ?_⟩
  · simp only [AS.see] at h
    split at h
    · exact h
    · cases h
  · simp only [AS.see] at h
    split at h
    · exact h
    · cases h

theorem ba_toList (s : List UInt8) : (⟨s.toArray⟩ : ByteArray).toList = s := by
  exact ByteArray.toList_mk s
theorem ba_append (s t : List UInt8) : (⟨s.toArray⟩ : ByteArray) ++ ⟨t.toArray⟩ = ⟨(s ++ t).toArray⟩ := by
  apply ByteArray.ext
  rw [ByteArray.data_append]
  simp
theorem ba_extract (s : List UInt8) (l h : Nat) : (⟨s.toArray⟩ : ByteArray).extract l h = ⟨((s.take h).drop l).toArray⟩ := by
  apply ByteArray.ext
  rw [ByteArray.data_extract]
  simp [List.drop_take]

section
variable {P : Program} {w : World}

theorem run_eqGuard_int (op : BinOp) (t : TypeId) (x y : Operand) (k k' : IntKind) (m n : Int) : (eqGuard op t x y (.int k m) (.int k' n)).run P w = .ok () w := by
  cases op <;> simp [eqGuard]
theorem run_eqGuard_str (op : BinOp) (t : TypeId) (x y : Operand) (m n : ByteArray) : (eqGuard op t x y (.string m) (.string n)).run P w = .ok () w := by
  cases op <;> simp [eqGuard]
theorem run_eqGuard_bool (op : BinOp) (t : TypeId) (x y : Operand) (m n : Bool) : (eqGuard op t x y (.bool m) (.bool n)).run P w = .ok () w := by
  cases op <;> simp [eqGuard]

theorem run_binInt {op : BinOp} {t : TypeId} {k k' : IntKind} {m n : Int} {v : PV} (h : binPV op (.int k m) (.int k' n) = some v) :
    ∃ u, (binOp op t (.int k m) (.int k' n)).run P w = .ok u w ∧ ∀ K, Rep K w u v := by
  unfold binPV at h
  cases op <;> simp only at h
  case shl =>
    split at h
    · cases h
    · rename_i hn
      cases h
      exact ⟨_, by simp [binOp, Op.shift, hn], fun K => .int _ _⟩
  case shr =>
    split at h
    · cases h
    · rename_i hn
      cases h
      exact ⟨_, by simp [binOp, Op.shift, hn], fun K => .int _ _⟩
  all_goals
    by_cases hk : k = k'
    rotate_left
    · rw [if_neg hk] at h
      cases h
    · subst hk
      simp only [if_true, cmpInt, arith] at h
      first
        | (simp only [Option.map_some] at h; cases h; refine ⟨.int k _, ?_, fun K => .int _ _⟩; simp [binOp, Op.intArith]; done)
        | (simp only [Option.map_some] at h; cases h; refine ⟨.int k _, ?_, fun K => .int _ _⟩; simp only [binOp, ne_eq, not_true_eq_false, if_false, Op.intBits]; rfl)
        | (cases h; exact ⟨_, by simp [binOp, Op.intCmp], fun K => .bool _⟩)
        | (split at h
           · cases h
           · rename_i hn
             simp only [Option.map_some] at h
             cases h
             exact ⟨_, by simp [binOp, Op.intDiv, hn], fun K => .int _ _⟩)
        | cases h

theorem run_binStr {op : BinOp} {t : TypeId} {m n : List UInt8} {v : PV} (h : binPV op (.str m) (.str n) = some v) :
    ∃ u, (binOp op t (.string ⟨m.toArray⟩) (.string ⟨n.toArray⟩)).run P w = .ok u w ∧ ∀ K, Rep K w u v := by
  unfold binPV at h
  cases op <;> simp only at h
  case add =>
    split at h
    case isFalse => cases h
    case isTrue hk =>
    cases h
    have h1 : ¬ ((((⟨m.toArray⟩ : ByteArray).size + (⟨n.toArray⟩ : ByteArray).size : Nat) : Int) > IntKind.i64.max) := by
      have e1 : (⟨m.toArray⟩ : ByteArray).size = m.length := by simp [ByteArray.size]
      have e2 : (⟨n.toArray⟩ : ByteArray).size = n.length := by simp [ByteArray.size]
      rw [e1, e2]
      have : IntKind.i64.max = 9223372036854775807 := by decide
      rw [this]
      omega
    refine ⟨.string ⟨(m ++ n).toArray⟩, ?_, fun K => .str _⟩
    simp only [binOp, Op.stringOp]
    rw [if_neg h1, ba_append]
    rfl
  all_goals first
    | (cases h; exact ⟨_, by simp only [binOp, Op.stringOp, ba_toList]; rfl, fun K => .bool _⟩)
    | cases h

theorem run_binBool {op : BinOp} {t : TypeId} {m n : Bool} {v : PV} (ht : P.underlying t = some .bool) (h : (binB op m n).map PV.bool = some v) :
    ∃ u, (binOp op t (.bool m) (.bool n)).run P w = .ok u w ∧ ∀ K, Rep K w u v := by
  unfold binB at h
  cases op <;> simp only at h
  case eql => cases h; exact ⟨_, run_eql_bool w t m n ht, fun K => .bool _⟩
  case neq => cases h; exact ⟨_, run_neq_bool w t m n ht, fun K => .bool _⟩
  all_goals cases h

theorem run_un {op : UnOp} {x v : PV} {u : Value} {K : Nat → Nat} (hu : Rep K w u x) (h : unPV op x = some v) : ∃ u', (Op.unary op u).run P w = .ok u' w ∧ Rep K w u' v := by
  cases hu with
  | int k n =>
    unfold unPV at h
    cases op <;> simp only at h
    case neg => cases h; exact ⟨_, by simp [Op.unary, Op.intArith], .int _ _⟩
    all_goals cases h
  | bool b =>
    unfold unPV at h
    cases op <;> simp only at h
    case not => cases h; exact ⟨_, by simp [Op.unary], .bool _⟩
    all_goals cases h
  | _ => simp [unPV] at h
end

end Go.Proofs.Ytfhgjhchjekbgaa
set_option linter.unusedVariables false
set_option linter.unusedSimpArgs false
namespace Go.Proofs.Ytfhgjhchjekbgaa
open Go

def constOK : Value → PV → Bool
  | .int k n, .int k' n' => decide (k = k') && decide (n = n')
  | .bool b, .bool b' => b == b'
  | .string s, .str l => decide (s.data.toList = l)
  | .slice none 0 0, .slice [] => true
  | _, _ => false
def opdOK : Operand → Opd → Bool
  | .tmp m, .t n => decide (m = n)
  | .const v, .c x => constOK v x
  | .const (.slice none 0 0), .nl _ => true
  | .func g, .fn f => decide (g = f)
  | .const _, .u => true
  | _, _ => false
def opdsOK : List Operand → List Opd → Bool
  | [], [] => true
  | x :: xs, y :: ys => opdOK x y && opdsOK xs ys
  | _, _ => false
def optOK : Option Operand → Option Opd → Bool
  | none, none => true
  | some x, some y => opdOK x y
  | _, _ => false
def szOK (P : Program) (t : TypeId) (n : Nat) : Bool :=
  match P.info? t with
  | some i => decide (i.size = n)
  | none => false
def isAggB (P : Program) (t : TypeId) : Option Bool :=
  match P.underlying t with
  | some (.struct _) => some true
  | some (.array _ _) => some true
  | some _ => some false
  | none => none

theorem constOK_rep {v : Value} {x : PV} (h : constOK v x = true) (K : Nat → Nat) (w : World) : Rep K w v x := by
  unfold constOK at h
  split at h
  · simp at h
    obtain ⟨rfl, rfl⟩ := h
    exact .int _ _
  · simp at h
    subst h
    exact .bool _
  · rename_i s l
    simp at h
    subst h
    have : s = ⟨s.data.toList.toArray⟩ := by simp
    rw [this]
    exact .str _
  · exact .slice0 _ _
  · cases h

section
variable {F : Fr} {G : Gh} {σ : AS} {a : Act} {w : World} {P : Program}

theorem opd_rel (h : Rel F G σ a w) {y : Operand} {x : Opd} (hx : opdOK y x = true) : IRel G σ.box σ.tl w (a.eval y) (σ.val x) := by
  unfold opdOK at hx
  split at hx
  · simp at hx
    subst hx
    exact h.tmps _
  · exact .p (constOK_rep hx _ _)
  · exact .nil _
  · simp at hx
    subst hx
    exact .clo _ #[] [] (fun _ => undef) rfl (by simp) (by simp)
  · exact .undef _
  · cases hx

theorem IRel.inv_p {b : Nat → Option (List IV)} {t : Tag → Option (Nat × RK)} {v : Value} {x : PV} (h : IRel G b t w v (.p x)) : Rep G.K w v x := by
  cases h; assumption
theorem IRel.inv_tip {b : Nat → Option (List IV)} {t : Tag → Option (Nat × RK)} {v : Value} {g : Tag} {r : Nat} {xs : List (List PV)} (h : IRel G b t w v (.tip g r xs)) :
    ∃ n k, Rep G.K w v (.slice xs) ∧ t g = some (n, k) ∧ r ≤ n ∧ (r = n → ∀ m sz, k = .tip m sz → (∀ e ∈ xs, e.length = sz) ∧ xs.length ≤ m ∧ (xs.length = m → v = G.V g)) := by
  cases h with
  | tip _ _ _ n k h ht hr hv => exact ⟨n, k, h, ht, hr, hv⟩
theorem IRel.inv_mo {b : Nat → Option (List IV)} {t : Tag → Option (Nat × RK)} {v : Value} {g : Tag} {r : Nat} (h : IRel G b t w v (.mo g r)) {sz : Nat} {es : List (List PV)} (ht : t g = some (r, .mo sz es)) : v = G.V g := by
  cases h with
  | mo _ _ n k h0 h2 hr hv =>
    rw [ht] at h2
    simp only [Option.some.injEq, Prod.mk.injEq] at h2
    obtain ⟨rfl, rfl⟩ := h2
    exact hv rfl _ _ rfl
theorem IRel.inv_mp {b : Nat → Option (List IV)} {t : Tag → Option (Nat × RK)} {v : Value} {g : Tag} {r off : Nat} (h : IRel G b t w v (.mp g r off)) {sz : Nat} {es : List (List PV)} (ht : t g = some (r, .mo sz es)) :
    ∃ c, (G.V g).ownBlock = some c ∧ v = .pointer (some ⟨c, off, none⟩) := by
  cases h with
  | mp _ _ _ n k h0 h2 hr hv =>
    rw [ht] at h2
    simp only [Option.some.injEq, Prod.mk.injEq] at h2
    obtain ⟨rfl, rfl⟩ := h2
    exact hv rfl _ _ rfl
theorem IRel.inv_agg {b : Nat → Option (List IV)} {t : Tag → Option (Nat × RK)} {v : Value} {cs : List IV} (h : IRel G b t w v (.agg cs)) :
    ∃ (vs : Array Value) (f : Nat → Value), v = .agg vs ∧ vs.size = cs.length ∧ (∀ (i : Nat) (c : IV), cs[i]? = some c → vs[i]? = some (f i)) ∧ (∀ (i : Nat) (c : IV), cs[i]? = some c → (f i).oneCell' = true) ∧ (∀ (i : Nat) (c : IV), cs[i]? = some c → IRel G b t w (f i) c) := by
  cases h with
  | agg vs _ f hl hc h1 hr => exact ⟨vs, f, rfl, hl, hc, h1, hr⟩
theorem IRel.inv_tup {b : Nat → Option (List IV)} {t : Tag → Option (Nat × RK)} {v : Value} {cs : List IV} (h : IRel G b t w v (.tup cs)) :
    ∃ (vs : Array Value) (f : Nat → Value), v = .tuple vs ∧ vs.size = cs.length ∧ (∀ (i : Nat) (c : IV), cs[i]? = some c → vs[i]? = some (f i)) ∧ (∀ (i : Nat) (c : IV), cs[i]? = some c → IRel G b t w (f i) c) := by
  cases h with
  | tup vs _ f hl hc hr => exact ⟨vs, f, rfl, hl, hc, hr⟩
theorem IRel.inv_clo {b : Nat → Option (List IV)} {t : Tag → Option (Nat × RK)} {v : Value} {g : FuncId} {cs : List IV} (h : IRel G b t w v (.clo g cs)) :
    ∃ (vs : Array Value) (f : Nat → Value), v = .func (.func g) #[] vs ∧ vs.size = cs.length ∧ (∀ (i : Nat) (c : IV), cs[i]? = some c → vs[i]? = some (f i)) ∧ (∀ (i : Nat) (c : IV), cs[i]? = some c → IRel G b t w (f i) c) := by
  cases h with
  | clo _ vs _ f hl hc hr => exact ⟨vs, f, rfl, hl, hc, hr⟩
theorem Rep.inv_agg {K : Nat → Nat} {v : Value} {cs : List PV} (h : Rep K w v (.agg cs)) :
    ∃ (vs : Array Value) (f : Nat → Value), v = .agg vs ∧ vs.size = cs.length ∧ (∀ (i : Nat) (c : PV), cs[i]? = some c → vs[i]? = some (f i)) ∧ (∀ (i : Nat) (c : PV), cs[i]? = some c → (f i).oneCell' = true) ∧ (∀ (i : Nat) (c : PV), cs[i]? = some c → Rep K w (f i) c) := by
  cases h with
  | agg vs _ f hl hc h1 hr => exact ⟨vs, f, rfl, hl, hc, h1, hr⟩
theorem Rep.inv_tup {K : Nat → Nat} {v : Value} {cs : List PV} (h : Rep K w v (.tup cs)) :
    ∃ (vs : Array Value) (f : Nat → Value), v = .tuple vs ∧ vs.size = cs.length ∧ (∀ (i : Nat) (c : PV), cs[i]? = some c → vs[i]? = some (f i)) ∧ (∀ (i : Nat) (c : PV), cs[i]? = some c → Rep K w (f i) c) := by
  cases h with
  | tup vs _ f hl hc hr => exact ⟨vs, f, rfl, hl, hc, hr⟩
theorem Rep.inv_int {K : Nat → Nat} {v : Value} {k : IntKind} {n : Int} (h : Rep K w v (.int k n)) : v = .int k n := by cases h; rfl
theorem Rep.inv_bool {K : Nat → Nat} {v : Value} {b : Bool} (h : Rep K w v (.bool b)) : v = .bool b := by cases h; rfl
theorem Rep.inv_str {K : Nat → Nat} {v : Value} {s : List UInt8} (h : Rep K w v (.str s)) : v = .string ⟨s.toArray⟩ := by cases h; rfl
theorem IRel.inv_int {b : Nat → Option (List IV)} {t : Tag → Option (Nat × RK)} {v : Value} {x : IV} {n : Int} (h : IRel G b t w v x) (hx : x.int? = some n) : ∃ k, v = .int k n ∧ x = .p (.int k n) := by
  unfold IV.int? at hx
  split at hx
  · simp at hx
    subst hx
    exact ⟨_, h.inv_p.inv_int, rfl⟩
  · cases hx
theorem IRel.inv_elems {b : Nat → Option (List IV)} {t : Tag → Option (Nat × RK)} {v : Value} {x : IV} {xs : List (List PV)} (h : IRel G b t w v x) (hx : x.elems = some xs) : Rep G.K w v (.slice xs) := by
  unfold IV.elems at hx
  split at hx
  · simp at hx
    subst hx
    exact h.inv_p
  · simp at hx
    subst hx
    cases h
    assumption
  · simp at hx
    subst hx
    cases h
    exact .slice0 _ _
  · cases hx

/-- A slice's form. -/
theorem Rep.inv_slice {K : Nat → Nat} {v : Value} {xs : List (List PV)} (h : Rep K w v (.slice xs)) :
    (∃ ad cap, v = .slice ad 0 cap ∧ xs = []) ∨
    ∃ (b off cap sz : Nat) (f : Nat → Nat → Value), v = .slice (some ⟨b, off, none⟩) xs.length cap ∧ 0 < xs.length ∧ xs.length ≤ cap ∧ off + xs.length * sz ≤ K b ∧
      (∀ (i : Nat) (x : List PV), xs[i]? = some x → x.length = sz) ∧
      (∀ (i : Nat) (x : List PV) (j : Nat) (c : PV), xs[i]? = some x → x[j]? = some c → w.cell? ⟨b, off + i * sz + j, none⟩ = some (f i j)) ∧
      (∀ (i : Nat) (x : List PV) (j : Nat) (c : PV), xs[i]? = some x → x[j]? = some c → (f i j).oneCell' = true) ∧
      (∀ (i : Nat) (x : List PV) (j : Nat) (c : PV), xs[i]? = some x → x[j]? = some c → Rep K w (f i j) c) := by
  cases h with
  | slice0 ad cap => exact .inl ⟨ad, cap, rfl, rfl⟩
  | slice b off len cap sz _ f h0 hl hp hK hs hc h1 hr =>
    subst hl
    exact .inr ⟨b, off, cap, sz, f, rfl, h0, hp, hK, hs, hc, h1, hr⟩
theorem Rep.slice_len {K : Nat → Nat} {v : Value} {xs : List (List PV)} (h : Rep K w v (.slice xs)) : ∃ ad cap, v = .slice ad xs.length cap ∧ xs.length ≤ cap := by
  rcases h.inv_slice with ⟨ad, cap, rfl, rfl⟩ | ⟨b, off, cap, sz, f, rfl, _, hp, _⟩
  · exact ⟨ad, cap, rfl, Nat.zero_le _⟩
  · exact ⟨_, cap, rfl, hp⟩

/-- A row that may be written. -/
theorem RepL.inv_mu {K : Nat → Nat} {v : Value} {sz : Nat} {xs : List (List PV)} {bl : List Nat} (h : RepL K w v (.mu sz xs) bl) :
    (v = .slice none 0 0 ∧ xs = [] ∧ bl = []) ∨
    ∃ (b cap : Nat) (cur : Array Value) (e : TypeId) (f : Nat → Nat → Value), v = .slice (some ⟨b, 0, none⟩) xs.length cap ∧ bl = [b] ∧ w.heap[b]? = some (.cells cur e (0, 0)) ∧ xs.length ≤ cap ∧ cap ≤ maxLen ∧ cur.size = cap * sz ∧ 0 < sz ∧ K b = 0 ∧
      (∀ (i : Nat) (x : List PV), xs[i]? = some x → x.length = sz) ∧
      (∀ (i : Nat) (x : List PV) (j : Nat) (c : PV), xs[i]? = some x → x[j]? = some c → cur[i * sz + j]? = some (f i j)) ∧
      (∀ (i : Nat) (x : List PV) (j : Nat) (c : PV), xs[i]? = some x → x[j]? = some c → (f i j).oneCell' = true) ∧
      (∀ (i : Nat) (x : List PV) (j : Nat) (c : PV), xs[i]? = some x → x[j]? = some c → Rep K w (f i j) c) := by
  cases h with
  | muNil => exact .inl ⟨rfl, rfl, rfl⟩
  | mu b n cap _ cur e _ f hg hn hm hz h0 hK hl hs hc h1 hr =>
    subst hl
    exact .inr ⟨b, cap, cur, e, f, rfl, rfl, hg, hn, hm, hz, h0, hK, hs, hc, h1, hr⟩
theorem Tip.inv {K : Nat → Nat} {v : Value} {n sz : Nat} {bl : List Nat} (h : Tip K w v n sz bl) :
    (v = .slice none 0 0 ∧ n = 0 ∧ bl = []) ∨
    ∃ (b cap : Nat) (cur : Array Value) (e : TypeId), v = .slice (some ⟨b, 0, none⟩) n cap ∧ bl = [b] ∧ w.heap[b]? = some (.cells cur e (0, 0)) ∧ n ≤ cap ∧ cap ≤ maxLen ∧ cur.size = cap * sz ∧ 0 < sz ∧ K b = n * sz := by
  cases h with
  | nil => exact .inl ⟨rfl, rfl, rfl⟩
  | row b _ cap _ cur e hg hn hm hs h0 hK => exact .inr ⟨b, cap, cur, e, rfl, rfl, hg, hn, hm, hs, h0, hK⟩

theorem addr_add (b o n : Nat) : (⟨b, o, none⟩ : Addr).add n = ⟨b, o + n, none⟩ := by
  unfold Addr.add
  split <;> simp_all

/-- An element of a slice, by its address. -/
theorem Rep.elem {K : Nat → Nat} {v : Value} {xs : List (List PV)} (h : Rep K w v (.slice xs)) {i : Nat} {e : List PV} (hi : xs[i]? = some e) {sz : Nat} (hs : e.length = sz) :
    ∃ b off cap, v = .slice (some ⟨b, off, none⟩) xs.length cap ∧ Rep K w (.pointer (some ⟨b, off + i * sz, none⟩)) (.cptr e) := by
  rcases h.inv_slice with ⟨ad, cap, rfl, rfl⟩ | ⟨b, off, cap, sz', f, rfl, h0, hp, hK, hsz, hc, h1, hr⟩
  · simp at hi
  · have e1 : sz' = sz := by rw [← hsz i e hi]; exact hs
    subst e1
    refine ⟨b, off, cap, rfl, .cptr b (off + i * sz') e (f i) ?_ (fun j c hj => hc i e j c hi hj) (fun j c hj => h1 i e j c hi hj) (fun j c hj => hr i e j c hi hj)⟩
    have h2 := lt_of_getElem? hi
    have : (i + 1) * sz' ≤ xs.length * sz' := Nat.mul_le_mul_right _ h2
    rw [Nat.add_mul] at this
    omega

theorem run_sizeOf_ok {t : TypeId} {n : Nat} (h : szOK P t n = true) (w : World) : (sizeOf t).run P w = .ok n w := by
  unfold szOK at h
  split at h
  · rename_i i hi
    simp at h
    subst h
    simp [sizeOf, typeInfo, hi]
  · cases h
theorem run_isAgg_ok {t : TypeId} {b : Bool} (h : isAggB P t = some b) (w : World) : (isAgg t).run P w = .ok b w := by
  unfold isAggB at h
  cases hu : P.underlying t with
  | none => simp [hu] at h
  | some d =>
    rw [hu] at h
    cases d <;> simp at h <;> subst h <;> simp [isAgg, run_underlying hu]

/-- Cells read one by one. -/
theorem run_load_cells (b o : Nat) (cs : List Value) (h : ∀ j v, cs[j]? = some v → w.cell? ⟨b, o + j, none⟩ = some v) : (loadCells ⟨b, o, none⟩ cs.length).run P w = .ok cs.toArray w := by
  refine run_loadCells_list w ⟨b, o, none⟩ cs fun j v hj => ?_
  rw [addr_add]
  exact h j v hj
theorem run_loadVar_ok {t : TypeId} {n : Nat} {ag : Bool} (hs : szOK P t n = true) (ha : isAggB P t = some ag) (b o : Nat) (cs : List Value) (hl : cs.length = n) (h : ∀ j v, cs[j]? = some v → w.cell? ⟨b, o + j, none⟩ = some v) :
    (loadVar t ⟨b, o, none⟩).run P w = if ag then .ok (.agg cs.toArray) w else (load ⟨b, o, none⟩).run P w := by
  cases ag
  · simp [loadVar, run_isAgg_ok ha]
  · simp [loadVar, run_isAgg_ok ha, run_sizeOf_ok hs, ← hl, run_load_cells b o cs h]

/-- The values of cells, of which each is known by itself. -/
theorem vals_of {α : Type} {R : Value → α → Prop} : ∀ (cs : List α) (f : Nat → Option Value), (∀ i c, cs[i]? = some c → ∃ v, f i = some v ∧ R v c) →
    ∃ vs : List Value, vs.length = cs.length ∧ ∀ i c, cs[i]? = some c → ∃ v, vs[i]? = some v ∧ f i = some v ∧ R v c
  | [], f, _ => ⟨[], rfl, by simp⟩
  | c :: cs, f, h => by
    obtain ⟨v, hv, hr⟩ := h 0 c (by simp)
    obtain ⟨vs, hl, hvs⟩ := vals_of cs (fun i => f (i + 1)) (fun i c' hi => h (i + 1) c' (by simpa using hi))
    refine ⟨v :: vs, by simp [hl], fun i c' hi => ?_⟩
    cases i with
    | zero =>
      simp at hi
      subst hi
      exact ⟨v, by simp, hv, hr⟩
    | succ i =>
      obtain ⟨u, h1, h2, h3⟩ := hvs i c' (by simpa using hi)
      exact ⟨u, by simpa using h1, h2, h3⟩

end

end Go.Proofs.Ytfhgjhchjekbgaa
set_option linter.unusedVariables false
set_option linter.unusedSimpArgs false
namespace Go.Proofs.Ytfhgjhchjekbgaa
open Go

def fieldOK (P : Program) (s : TypeId) (f off : Nat) : Bool :=
  match P.underlying s with
  | some (.struct fs) => match fs[f]? with
    | some fl => decide (fl.offset = off) && (match P.info? fl.type with
      | some i => decide (i.size ≠ 0)
      | none => false)
    | none => false
  | _ => false
def sliceOK (P : Program) (t : TypeId) (sz : Nat) : Bool :=
  match P.underlying t with
  | some (.slice e) => szOK P e sz
  | _ => false
def isStr (P : Program) (t : TypeId) : Bool :=
  match P.underlying t with
  | some .string => true
  | _ => false
def isBoolT (P : Program) (t : TypeId) : Bool :=
  match P.underlying t with
  | some .bool => true
  | _ => false
def isSl (P : Program) (t : TypeId) : Bool :=
  match P.underlying t with
  | some (.slice _) => true
  | _ => false

/-- Does the operation have this abstract form? (Those that change no memory.) -/
def kOK (P : Program) : Op → AK → Bool
  | .move x, .mv y => opdOK x y
  | .assign x, .mv y => opdOK x y
  | .pick c x y, .pick c' x' y' => opdOK c c' && opdOK x x' && opdOK y y'
  | .binOp op _ x y _, .bin op' x' y' => decide (op = op') && opdOK x x' && opdOK y y'
  | .binOp op t x y _, .bnb op' x' y' => decide (op = op') && opdOK x x' && opdOK y y' && isBoolT P t
  | .unOp op _ x, .un op' x' => decide (op = op') && opdOK x x'
  | .fieldAddr s x f, .fa x' off => opdOK x x' && fieldOK P s f off
  | .indexAddr t x i, .ia x' i' sz => opdOK x x' && opdOK i i' && sliceOK P t sz
  | .indexAddr t x i, .iam x' i' sz => opdOK x x' && opdOK i i' && sliceOK P t sz
  | .load t x, .ld x' sz ag => opdOK x x' && szOK P t sz && decide (isAggB P t = some ag)
  | .load t x, .ldm x' sz ag => opdOK x x' && szOK P t sz && decide (isAggB P t = some ag)
  | .extract x i, .ex x' i' => opdOK x x' && decide (i = i')
  | .nilCheck x, .nc x' => opdOK x x'
  | .index t x i, .ix x' i' => opdOK x x' && opdOK i i' && isStr P t
  | .slice t x lo hi none, .ss x' lo' hi' => opdOK x x' && optOK lo lo' && optOK hi hi' && isStr P t
  | .slice t x lo hi none, .sl x' lo' hi' sz => opdOK x x' && optOK lo lo' && optOK hi hi' && sliceOK P t sz
  | .convert s t x, .cvi k x' => opdOK x x' && (match P.underlying s, P.underlying t with
    | some (.int _), some (.int k') => decide (k = k')
    | _, _ => false)
  | .call c, .len x' => match c.callee with
    | .builtin .len => (match c.args.toList, c.argTypes.toList with
      | [x], [t] => opdOK x x' && isSl P t
      | _, _ => false)
    | _ => false
  | .call c, .lenm x' => match c.callee with
    | .builtin .len => (match c.args.toList, c.argTypes.toList with
      | [x], [t] => opdOK x x' && isSl P t
      | _, _ => false)
    | _ => false
  | .call c, .lens x' => match c.callee with
    | .builtin .len => (match c.args.toList, c.argTypes.toList with
      | [x], [t] => opdOK x x' && isStr P t
      | _, _ => false)
    | _ => false
  | .call c, .mx x' y' => match c.callee with
    | .builtin .max => (match c.args.toList with
      | [x, y] => opdOK x x' && opdOK y y'
      | _ => false)
    | _ => false
  | .makeFunc (.func f) first caps, .mf f' caps' => decide (f = f') && first.isEmpty && opdsOK caps.toList caps'
  | _, _ => false

section
variable {F : Fr} {G : Gh} {σ σh : AS} {a : Act} {w : World} {P : Program} {o : Oper} {d : Nat}

/-- What such an operation comes to. -/
def Val (P : Program) (G : Gh) (σ : AS) (a : Act) (w : World) (o : Oper) (r : Res) : Prop :=
  ∃ v, Does P o a w v w ∧ IRel G σ.box σ.tl w v r.v ∧ r.bx = [] ∧ r.tls = []

theorem v_mv (h : Rel F G σ a w) (hle : σh.le σ) {y : Operand} {x : Opd} (ho : o.op = .move y ∨ o.op = .assign y) (hx : opdOK y x = true) {r : Res} (hev : evK σh d (.mv x) = some r) : Val P G σ a w o r := by
  simp only [evK, Option.some.injEq] at hev
  subst hev
  refine ⟨a.eval y, ?_, ?_, rfl, rfl⟩
  · rcases ho with ho | ho <;> exact .inl (by simp [execOp, ho])
  · simp only [hle.val]
    exact opd_rel h hx

theorem v_pick (h : Rel F G σ a w) (hle : σh.le σ) {c y z : Operand} {c' y' z' : Opd} (ho : o.op = .pick c y z) (hc : opdOK c c' = true) (hy : opdOK y y' = true) (hz : opdOK z z' = true) {r : Res}
    (hev : evK σh d (.pick c' y' z') = some r) : Val P G σ a w o r := by
  simp only [evK, hle.val] at hev
  split at hev
  · rename_i b hb
    simp only [Option.some.injEq] at hev
    subst hev
    have h1 := opd_rel h hc
    rw [hb] at h1
    have e1 := h1.inv_p.inv_bool
    refine ⟨if b then a.eval y else a.eval z, .inl (by simp [execOp, ho, e1, asBool]), ?_, rfl, rfl⟩
    cases b
    · exact opd_rel h hz
    · exact opd_rel h hy
  · cases hev

theorem v_bin (h : Rel F G σ a w) (hle : σh.le σ) {op : BinOp} {t t' : TypeId} {y z : Operand} {y' z' : Opd} (ho : o.op = .binOp op t y z t') (hy : opdOK y y' = true) (hz : opdOK z z' = true) {r : Res}
    (hev : evK σh d (.bin op y' z') = some r) : Val P G σ a w o r := by
  simp only [evK, hle.val] at hev
  split at hev
  · rename_i p q hp hq
    rw [Option.map_eq_some_iff] at hev
    obtain ⟨v, hv, rfl⟩ := hev
    have h1 := opd_rel h hy
    have h2 := opd_rel h hz
    rw [hp] at h1
    rw [hq] at h2
    have h3 := h1.inv_p
    have h4 := h2.inv_p
    cases p <;> cases q <;> first | (simp [binPV] at hv; done) | skip
    · have e1 := h3.inv_int
      have e2 := h4.inv_int
      obtain ⟨u, hu, hr⟩ := run_binInt (P := P) (w := w) (t := t) hv
      exact ⟨u, .inl (by simp [execOp, ho, e1, e2, run_eqGuard_int, hu]), .p (hr _), rfl, rfl⟩
    · have e1 := h3.inv_str
      have e2 := h4.inv_str
      obtain ⟨u, hu, hr⟩ := run_binStr (P := P) (w := w) (t := t) hv
      exact ⟨u, .inl (by simp [execOp, ho, e1, e2, run_eqGuard_str, hu]), .p (hr _), rfl, rfl⟩
  · cases hev

theorem v_bnb (h : Rel F G σ a w) (hle : σh.le σ) {op : BinOp} {t t' : TypeId} {y z : Operand} {y' z' : Opd} (ho : o.op = .binOp op t y z t') (hy : opdOK y y' = true) (hz : opdOK z z' = true) (ht : isBoolT P t = true) {r : Res}
    (hev : evK σh d (.bnb op y' z') = some r) : Val P G σ a w o r := by
  simp only [evK, hle.val] at hev
  have ht' : P.underlying t = some .bool := by
    unfold isBoolT at ht
    split at ht
    · assumption
    · cases ht
  split at hev
  · rename_i p q hp hq
    rw [Option.map_eq_some_iff] at hev
    obtain ⟨v, hv, rfl⟩ := hev
    have h1 := opd_rel h hy
    have h2 := opd_rel h hz
    rw [hp] at h1
    rw [hq] at h2
    have e1 := h1.inv_p.inv_bool
    have e2 := h2.inv_p.inv_bool
    obtain ⟨u, hu, hr⟩ := run_binBool (P := P) (w := w) ht' (v := .bool v) (by rw [hv]; rfl)
    exact ⟨u, .inl (by simp [execOp, ho, e1, e2, run_eqGuard_bool, hu]), .p (hr _), rfl, rfl⟩
  · cases hev

theorem v_un (h : Rel F G σ a w) (hle : σh.le σ) {op : UnOp} {t : TypeId} {y : Operand} {y' : Opd} (ho : o.op = .unOp op t y) (hy : opdOK y y' = true) {r : Res}
    (hev : evK σh d (.un op y') = some r) : Val P G σ a w o r := by
  simp only [evK, hle.val] at hev
  split at hev
  · rename_i p hp
    rw [Option.map_eq_some_iff] at hev
    obtain ⟨v, hv, rfl⟩ := hev
    have h1 := opd_rel h hy
    rw [hp] at h1
    obtain ⟨u, hu, hr⟩ := run_un (P := P) h1.inv_p hv
    exact ⟨u, .inl (by simp [execOp, ho, hu]), .p hr, rfl, rfl⟩
  · cases hev

theorem Rep.cptr_drop {K : Nat → Nat} {b o n : Nat} {cs : List PV} (h : Rep K w (.pointer (some ⟨b, o, none⟩)) (.cptr cs)) (hn : n ≤ cs.length) : Rep K w (.pointer (some ⟨b, o + n, none⟩)) (.cptr (cs.drop n)) := by
  cases h with
  | cptr _ _ _ f hK hc h1 hr =>
    refine .cptr b (o + n) _ (fun i => f (n + i)) (by simp; omega) (fun i c hi => ?_) (fun i c hi => ?_) (fun i c hi => ?_)
    all_goals rw [List.getElem?_drop] at hi
    · rw [show o + n + i = o + (n + i) by omega]
      exact hc _ _ hi
    · exact h1 _ _ hi
    · exact hr _ _ hi
theorem Rep.inv_cptr {K : Nat → Nat} {v : Value} {cs : List PV} (h : Rep K w v (.cptr cs)) : ∃ b o, v = .pointer (some ⟨b, o, none⟩) := by
  cases h
  exact ⟨_, _, rfl⟩
theorem IRel.inv_ptr {b : Nat → Option (List IV)} {t : Tag → Option (Nat × RK)} {v : Value} {s n : Nat} (h : IRel G b t w v (.ptr s n)) : v = .pointer (some ⟨G.ρ s, n, none⟩) ∧ ∃ cs, b s = some cs := by
  cases h with
  | ptr _ _ cs h => exact ⟨rfl, cs, h⟩

theorem run_fieldPlace {s : TypeId} {f off : Nat} (hf : fieldOK P s f off = true) (b n : Nat) : (Instr.fieldAt s (.pointer (some ⟨b, n, none⟩)) f).run P w = .ok (.pointer (some ⟨b, n + off, none⟩)) w := by
  unfold fieldOK at hf
  split at hf
  · rename_i fs hu
    split at hf
    · rename_i fl hfl
      simp only [Bool.and_eq_true, decide_eq_true_eq] at hf
      obtain ⟨rfl, h2⟩ := hf
      split at h2
      · rename_i i hi
        simp at h2
        simp [Instr.fieldAt, run_underlying hu, hfl, Instr.sureAddr, fieldPlace, sizeOf, typeInfo, hi, h2, addr_add]
      · cases h2
    · cases hf
  · cases hf

theorem v_fa (h : Rel F G σ a w) (hle : σh.le σ) {s : TypeId} {f off : Nat} {y : Operand} {y' : Opd} (ho : o.op = .fieldAddr s y f) (hy : opdOK y y' = true) (hf : fieldOK P s f off = true) {r : Res}
    (hev : evK σh d (.fa y' off) = some r) : Val P G σ a w o r := by
  simp only [evK, hle.val] at hev
  have h1 := opd_rel h hy
  split at hev
  · rename_i s' n hp
    simp only [Option.some.injEq] at hev
    subst hev
    rw [hp] at h1
    obtain ⟨e1, cs, hcs⟩ := h1.inv_ptr
    exact ⟨_, .inl (by simp [execOp, ho, e1, run_fieldPlace hf]), .ptr _ _ cs hcs, rfl, rfl⟩
  · rename_i cs hp
    split at hev
    · rename_i hn
      simp only [Option.some.injEq] at hev
      subst hev
      rw [hp] at h1
      obtain ⟨b, n, e1⟩ := h1.inv_p.inv_cptr
      have h2 := h1.inv_p
      rw [e1] at h2
      exact ⟨_, .inl (by simp [execOp, ho, e1, run_fieldPlace hf]), .p (h2.cptr_drop hn), rfl, rfl⟩
    · cases hev
  · cases hev

theorem run_indexAt {t : TypeId} {sz : Nat} (ht : sliceOK P t sz = true) (b off len cap : Nat) (k : IntKind) (i : Int) (h0 : 0 ≤ i) (h1 : i.toNat < len) :
    (Instr.indexAt t (.slice (some ⟨b, off, none⟩) len cap) (.int k i)).run P w = .ok (.pointer (some ⟨b, off + i.toNat * sz, none⟩)) w := by
  unfold sliceOK at ht
  split at ht
  · rename_i e hu
    have h2 : i < (len : Int) := by omega
    simp [Instr.indexAt, asIntOf, run_underlying hu, h0, h2, run_sizeOf_ok ht, addr_add]
  · cases ht

theorem v_ia (h : Rel F G σ a w) (hle : σh.le σ) {t : TypeId} {sz : Nat} {y z : Operand} {y' z' : Opd} (ho : o.op = .indexAddr t y z) (hy : opdOK y y' = true) (hz : opdOK z z' = true) (ht : sliceOK P t sz = true) {r : Res}
    (hev : evK σh d (.ia y' z' sz) = some r) : Val P G σ a w o r := by
  simp only [evK, hle.val] at hev
  have h1 := opd_rel h hy
  have h2 := opd_rel h hz
  split at hev
  case h_2 => cases hev
  rename_i n hn
  obtain ⟨k, e2, _⟩ := h2.inv_int hn
  split at hev
  case isFalse => cases hev
  rename_i h0
  split at hev
  case h_2 => cases hev
  rename_i xs hxs
  split at hev
  case h_2 => cases hev
  rename_i e he
  split at hev
  case isFalse => cases hev
  rename_i hs
  simp only [Option.some.injEq] at hev
  subst hev
  have h3 := h1.inv_elems hxs
  obtain ⟨b, off, cap, e1, h4⟩ := h3.elem he hs
  exact ⟨_, .inl (by simp [execOp, ho, e1, e2, run_indexAt ht _ _ _ _ _ _ h0 (lt_of_getElem? he)]), .p h4, rfl, rfl⟩

theorem v_iam (h : Rel F G σ a w) (hle : σh.le σ) {t : TypeId} {sz : Nat} {y z : Operand} {y' z' : Opd} (ho : o.op = .indexAddr t y z) (hy : opdOK y y' = true) (hz : opdOK z z' = true) (ht : sliceOK P t sz = true) {r : Res}
    (hev : evK σh d (.iam y' z' sz) = some r) : Val P G σ a w o r := by
  simp only [evK, hle.val] at hev
  have h1 := opd_rel h hy
  have h2 := opd_rel h hz
  split at hev
  case h_2 => cases hev
  rename_i n hn
  obtain ⟨k, e2, _⟩ := h2.inv_int hn
  split at hev
  case isFalse => cases hev
  rename_i h0
  split at hev
  · rename_i g q hp
    split at hev
    case h_2 => cases hev
    rename_i q' sz' es htl
    split at hev
    case isFalse => cases hev
    rename_i hc
    obtain ⟨rfl, hlt, rfl⟩ := hc
    simp only [Option.some.injEq] at hev
    subst hev
    have htl' := hle.tl _ _ htl
    rw [hp] at h1
    have e1 := h1.inv_mo htl'
    obtain ⟨bl, hrow⟩ := h.rows g _ _ htl'
    rcases hrow.inv_mu with ⟨_, rfl, _⟩ | ⟨b, cap, cur, e, f, e3, _⟩
    · simp at hlt
    · rw [e3] at e1
      exact ⟨_, .inl (by simp only [execOp, ho, e1, e2, Sem.run_bind, run_indexAt ht _ _ _ _ _ _ h0 hlt]; rfl),
        .mp g q _ q _ rfl htl' (Nat.le_refl _) fun _ _ _ _ => ⟨b, by rw [e3]; rfl, by rw [Nat.zero_add]⟩, rfl, rfl⟩
  · cases hev

end

end Go.Proofs.Ytfhgjhchjekbgaa
set_option linter.unusedVariables false
set_option linter.unusedSimpArgs false
namespace Go.Proofs.Ytfhgjhchjekbgaa
open Go

section
variable {F : Fr} {G : Gh} {σ σh : AS} {a : Act} {w : World} {P : Program} {o : Oper} {d : Nat}

/-- Cells that are known one by one are loaded as one value. -/
theorem load_rel {t : TypeId} {n : Nat} {ag : Bool} (hs : szOK P t n = true) (ha : isAggB P t = some ag) {b off : Nat} {cs : List IV} (hl : cs.length = n)
    (hc : ∀ i c, cs[i]? = some c → ∃ v, w.cell? ⟨b, off + i, none⟩ = some v ∧ (v.oneCell' = true ∧ IRel G σ.box σ.tl w v c)) {x : IV} (hx : oneOrAgg ag cs = some x) :
    ∃ v, (loadVar t ⟨b, off, none⟩).run P w = .ok v w ∧ IRel G σ.box σ.tl w v x := by
  obtain ⟨vs, hvl, hvs⟩ := vals_of cs (fun i => w.cell? ⟨b, off + i, none⟩) hc
  have hcell : ∀ j v, vs[j]? = some v → w.cell? ⟨b, off + j, none⟩ = some v := by
    intro j v hj
    have hlt := lt_of_getElem? hj
    obtain ⟨u, h1, h2, _⟩ := hvs j (cs[j]'(by omega)) (by simp)
    rw [hj] at h1
    simp at h1
    subst h1
    exact h2
  have hrun := run_loadVar_ok (w := w) hs ha b off vs (by omega) hcell
  cases ag
  · unfold oneOrAgg at hx
    simp only [Bool.false_eq_true, if_false] at hx
    split at hx
    · rename_i c
      simp only [Option.some.injEq] at hx
      subst hx
      obtain ⟨u, h1, h2, h3, h4⟩ := hvs 0 c (by simp)
      refine ⟨u, ?_, h4⟩
      rw [hrun]
      have h2' : w.cell? ⟨b, off, none⟩ = some u := h2
      simp [run_load, h2']
    · cases hx
  · unfold oneOrAgg at hx
    simp only [if_true, Option.some.injEq] at hx
    subst hx
    refine ⟨.agg vs.toArray, by rw [hrun]; rfl, .agg _ _ (fun i => (vs[i]?).getD undef) (by simp [hvl]) (fun i c hi => ?_) (fun i c hi => ?_) (fun i c hi => ?_)⟩
    all_goals obtain ⟨u, h1, h2, h3, h4⟩ := hvs i c hi
    · simp [h1]
    · simp only [h1, Option.getD_some]; exact h3
    · simp only [h1, Option.getD_some]; exact h4

theorem oneOrAggP_eq (ag : Bool) (cs : List PV) {x : IV} (h : oneOrAggP ag cs = some x) (v : Value) (hv : ∀ y, oneOrAgg ag (cs.map .p) = some y → IRel G σ.box σ.tl w v y) : IRel G σ.box σ.tl w v x := by
  unfold oneOrAggP at h
  cases ag
  · simp only [Bool.false_eq_true, if_false] at h
    split at h
    · simp only [Option.some.injEq] at h
      subst h
      exact hv _ rfl
    · cases h
  · simp only [if_true, Option.some.injEq] at h
    subst h
    obtain ⟨vs, f, rfl, hl, hc, h1, hr⟩ := (hv _ rfl).inv_agg
    refine .p (.agg vs cs f (by simpa using hl) (fun i c hi => hc i (.p c) (by simp [hi])) (fun i c hi => h1 i (.p c) (by simp [hi])) (fun i c hi => (hr i (.p c) (by simp [hi])).inv_p))
theorem oneOrAgg_map (ag : Bool) (cs : List PV) {x : IV} (h : oneOrAggP ag cs = some x) : ∃ y, oneOrAgg ag (cs.map .p) = some y := by
  unfold oneOrAggP at h
  unfold oneOrAgg
  cases ag
  · simp only [Bool.false_eq_true, if_false] at h ⊢
    split at h
    · exact ⟨_, rfl⟩
    · cases h
  · exact ⟨_, rfl⟩

theorem load_relP {t : TypeId} {n : Nat} {ag : Bool} (hs : szOK P t n = true) (ha : isAggB P t = some ag) {b off : Nat} {cs : List PV} (hl : cs.length = n)
    (hc : ∀ i c, cs[i]? = some c → ∃ v, w.cell? ⟨b, off + i, none⟩ = some v ∧ (v.oneCell' = true ∧ Rep G.K w v c)) {x : IV} (hx : oneOrAggP ag cs = some x) :
    ∃ v, (loadVar t ⟨b, off, none⟩).run P w = .ok v w ∧ IRel G σ.box σ.tl w v x := by
  obtain ⟨y, hy⟩ := oneOrAgg_map ag cs hx
  obtain ⟨v, h1, h2⟩ := load_rel (G := G) (σ := σ) hs ha (b := b) (off := off) (cs := cs.map .p) (by simpa using hl) (fun i c hi => by
    rw [List.getElem?_map, Option.map_eq_some_iff] at hi
    obtain ⟨c0, hc0, rfl⟩ := hi
    obtain ⟨v, h3, h4, h5⟩ := hc i c0 hc0
    exact ⟨v, h3, h4, .p h5⟩) hy
  exact ⟨v, h1, oneOrAggP_eq ag cs hx v fun z hz => by rw [hy] at hz; simp at hz; subst hz; exact h2⟩

theorem cell_heap {b i : Nat} {cur : Array Value} {e : TypeId} {fr : Nat × Nat} (hg : w.heap[b]? = some (.cells cur e fr)) : w.cell? ⟨b, i, none⟩ = cur[i]? := cell_of_row w b i cur e fr hg

theorem divmod_at {o sz i : Nat} (h0 : 0 < sz) (hi : o % sz + i < sz) : o / sz * sz + (o % sz + i) = o + i := by
  have := Nat.div_add_mod o sz
  rw [Nat.mul_comm] at this
  omega

theorem v_ld (h : Rel F G σ a w) (hle : σh.le σ) {t : TypeId} {sz : Nat} {ag : Bool} {y : Operand} {y' : Opd} (ho : o.op = .load t y) (hy : opdOK y y' = true) (hs : szOK P t sz = true) (ha : isAggB P t = some ag) {r : Res}
    (hev : evK σh d (.ld y' sz ag) = some r) : Val P G σ a w o r := by
  simp only [evK, hle.val] at hev
  have h1 := opd_rel h hy
  split at hev
  · rename_i s n hp
    rw [hp] at h1
    obtain ⟨e1, _⟩ := h1.inv_ptr
    split at hev
    case h_2 => cases hev
    rename_i cs hcs
    split at hev
    case isFalse => cases hev
    rename_i hlen
    rw [Option.map_eq_some_iff] at hev
    obtain ⟨x, hx, rfl⟩ := hev
    obtain ⟨vs, e, hg, hl, hc⟩ := h.boxes s cs (hle.box _ _ hcs)
    obtain ⟨v, h2, h3⟩ := load_rel (P := P) (G := G) (σ := σ) (w := w) hs ha (b := G.ρ s) (off := n) (cs := (cs.drop n).take sz) (by simp; omega) (fun i c hi => by
      rw [List.getElem?_take] at hi
      split at hi
      · rw [List.getElem?_drop] at hi
        obtain ⟨v, h2, h3, h4⟩ := hc _ c hi
        exact ⟨v, by rw [cell_heap hg]; exact h2, h3, h4⟩
      · cases hi) hx
    exact ⟨v, .inl (by simp only [execOp, ho, e1, Instr.loadAt, Instr.sureAddr]; simp [h2]), h3, rfl, rfl⟩
  · rename_i cs hp
    split at hev
    case isFalse => cases hev
    rename_i hlen
    rw [Option.map_eq_some_iff] at hev
    obtain ⟨x, hx, rfl⟩ := hev
    rw [hp] at h1
    obtain ⟨b, n, e1⟩ := h1.inv_p.inv_cptr
    have h2 := h1.inv_p
    rw [e1] at h2
    cases h2 with
    | cptr _ _ _ f hK hc h4 hr =>
      obtain ⟨v, h2, h3⟩ := load_relP (P := P) (G := G) (σ := σ) (w := w) hs ha (b := b) (off := n) (cs := cs.take sz) (by simp; omega) (fun i c hi => by
        rw [List.getElem?_take] at hi
        split at hi
        · exact ⟨f i, hc i c hi, h4 i c hi, hr i c hi⟩
        · cases hi) hx
      exact ⟨v, .inl (by simp only [execOp, ho, e1, Instr.loadAt, Instr.sureAddr]; simp [h2]), h3, rfl, rfl⟩
  · cases hev

theorem v_ldm (h : Rel F G σ a w) (hle : σh.le σ) {t : TypeId} {sz : Nat} {ag : Bool} {y : Operand} {y' : Opd} (ho : o.op = .load t y) (hy : opdOK y y' = true) (hs : szOK P t sz = true) (ha : isAggB P t = some ag) {r : Res}
    (hev : evK σh d (.ldm y' sz ag) = some r) : Val P G σ a w o r := by
  simp only [evK, hle.val] at hev
  have h1 := opd_rel h hy
  split at hev
  · rename_i g q n hp
    split at hev
    case h_2 => cases hev
    rename_i q' sz' es htl
    split at hev
    case isFalse => cases hev
    rename_i hcd
    obtain ⟨rfl, h0, hin⟩ := hcd
    split at hev
    case h_2 => cases hev
    rename_i ee hee
    rw [Option.map_eq_some_iff] at hev
    obtain ⟨x, hx, rfl⟩ := hev
    have htl' := hle.tl _ _ htl
    rw [hp] at h1
    obtain ⟨c, hc, e1⟩ := h1.inv_mp htl'
    obtain ⟨bl, hrow⟩ := h.rows g _ _ htl'
    rcases hrow.inv_mu with ⟨e3, rfl, _⟩ | ⟨b, cap, cur, e, f, e3, _, hg, hn2, hm, hz2, hp0, hK, hes, hce, h1e, hre⟩
    · simp at hee
    · rw [e3] at hc
      simp [Value.ownBlock] at hc
      subst hc
      have hel := hes _ _ hee
      obtain ⟨v, h2, h3⟩ := load_relP (P := P) (G := G) (σ := σ) (w := w) hs ha (b := b) (off := n) (cs := (ee.drop (n % sz')).take sz) (by simp; omega) (fun i c hi => by
        rw [List.getElem?_take] at hi
        split at hi
        · rename_i hlt
          rw [List.getElem?_drop] at hi
          refine ⟨f (n / sz') (n % sz' + i), ?_, h1e _ _ _ _ hee hi, hre _ _ _ _ hee hi⟩
          rw [cell_heap hg, ← divmod_at h0 (i := i) (by omega)]
          exact hce _ _ _ _ hee hi
        · cases hi) hx
      exact ⟨v, .inl (by simp only [execOp, ho, e1, Instr.loadAt, Instr.sureAddr]; simp [h2]), h3, rfl, rfl⟩
  · cases hev

theorem v_ex (h : Rel F G σ a w) (hle : σh.le σ) {i : Nat} {y : Operand} {y' : Opd} (ho : o.op = .extract y i) (hy : opdOK y y' = true) {r : Res}
    (hev : evK σh d (.ex y' i) = some r) : Val P G σ a w o r := by
  simp only [evK, hle.val] at hev
  have h1 := opd_rel h hy
  split at hev
  · rename_i cs hp
    rw [Option.map_eq_some_iff] at hev
    obtain ⟨x, hx, rfl⟩ := hev
    rw [hp] at h1
    obtain ⟨vs, f, e1, hl, hc, hr⟩ := h1.inv_tup
    exact ⟨f i, .inl (by simp [execOp, ho, e1, Instr.extract, hc i x hx]), hr i x hx, rfl, rfl⟩
  · rename_i cs hp
    rw [Option.map_eq_some_iff] at hev
    obtain ⟨x, hx, rfl⟩ := hev
    rw [hp] at h1
    obtain ⟨vs, f, e1, hl, hc, hr⟩ := h1.inv_p.inv_tup
    exact ⟨f i, .inl (by simp [execOp, ho, e1, Instr.extract, hc i x hx]), .p (hr i x hx), rfl, rfl⟩
  · cases hev

theorem v_nc (h : Rel F G σ a w) (hle : σh.le σ) {y : Operand} {y' : Opd} (ho : o.op = .nilCheck y) (hy : opdOK y y' = true) {r : Res}
    (hev : evK σh d (.nc y') = some r) : Val P G σ a w o r := by
  simp only [evK, hle.val] at hev
  have h1 := opd_rel h hy
  split at hev
  · rename_i s n hp
    simp only [Option.some.injEq] at hev
    subst hev
    rw [hp] at h1
    obtain ⟨e1, cs, hcs⟩ := h1.inv_ptr
    exact ⟨_, .inl (by simp [execOp, ho, e1]), .ptr _ _ cs hcs, rfl, rfl⟩
  · rename_i cs hp
    simp only [Option.some.injEq] at hev
    subst hev
    rw [hp] at h1
    obtain ⟨b, n, e1⟩ := h1.inv_p.inv_cptr
    have h2 := h1
    rw [e1] at h2
    exact ⟨_, .inl (by simp [execOp, ho, e1]), h2, rfl, rfl⟩
  · cases hev

theorem v_ix (h : Rel F G σ a w) (hle : σh.le σ) {t : TypeId} {y z : Operand} {y' z' : Opd} (ho : o.op = .index t y z) (hy : opdOK y y' = true) (hz : opdOK z z' = true) (ht : isStr P t = true) {r : Res}
    (hev : evK σh d (.ix y' z') = some r) : Val P G σ a w o r := by
  simp only [evK, hle.val] at hev
  have h1 := opd_rel h hy
  have h2 := opd_rel h hz
  have ht' : P.underlying t = some .string := by
    unfold isStr at ht
    split at ht
    · assumption
    · cases ht
  split at hev
  · rename_i s n hp hn
    split at hev
    case isFalse => cases hev
    rename_i h0
    split at hev
    case h_2 => cases hev
    rename_i b hb
    simp only [Option.some.injEq] at hev
    subst hev
    rw [hp] at h1
    have e1 := h1.inv_p.inv_str
    obtain ⟨k, e2, _⟩ := h2.inv_int hn
    have hb' : (⟨s.toArray⟩ : ByteArray)[n.toNat]? = some b := by
      have hlt := lt_of_getElem? hb
      have : n.toNat < (⟨s.toArray⟩ : ByteArray).size := by simpa [ByteArray.size] using hlt
      rw [getElem?_pos (⟨s.toArray⟩ : ByteArray) n.toNat this]
      have e3 : s[n.toNat] = b := by
        rw [List.getElem?_eq_getElem hlt] at hb
        simpa using hb
      rw [← e3]
      rfl
    exact ⟨_, .inl (by simp [execOp, ho, e1, e2, Instr.index, asIntOf, run_underlying ht', h0, hb']), .p (.int _ _), rfl, rfl⟩
  · cases hev

theorem bound_rel (h : Rel F G σ a w) (hle : σh.le σ) {n m : Nat} {z : Option Operand} {z' : Option Opd} (hz : optOK z z' = true) (hev : bound? σh n z' = some m) :
    match z.map a.eval with
    | none => m = n
    | some v => ∃ k, v = .int k m := by
  cases z with
  | none =>
    cases z' with
    | none => simp [bound?] at hev; simp [hev]
    | some y => simp [optOK] at hz
  | some x =>
    cases z' with
    | none => simp [optOK] at hz
    | some y =>
      simp only [optOK] at hz
      simp only [bound?, hle.val] at hev
      split at hev
      · rename_i i hi
        split at hev
        · rename_i h0
          simp only [Option.some.injEq] at hev
          subst hev
          obtain ⟨k, e, _⟩ := (opd_rel h hz).inv_int hi
          exact ⟨k, by rw [e]; congr 1; omega⟩
        · cases hev
      · cases hev

theorem run_bounds {isS : Bool} {len cap l hh : Nat} {lo hi : Option Value} (hlo : match lo with
    | none => l = 0
    | some v => ∃ k, v = .int k l) (hhi : match hi with
    | none => hh = len
    | some v => ∃ k, v = .int k hh) (h1 : l ≤ hh) (h2 : hh ≤ cap) : (Instr.sliceBounds isS len cap lo hi none).run P w = .ok (l, hh, cap) w := by
  cases lo with
  | none =>
    simp only at hlo
    subst hlo
    cases hi with
    | none =>
      simp only at hhi
      subst hhi
      simp [Instr.sliceBounds]
    | some v =>
      obtain ⟨k, rfl⟩ := hhi
      have : (hh : Int) ≤ cap := by omega
      have n2 : ¬ cap < hh := by omega
      simp [Instr.sliceBounds, Instr.sliceBound, asIntOf, this, n2]
  | some u =>
    obtain ⟨k', rfl⟩ := hlo
    have h3 : (l : Int) ≤ hh := by omega
    cases hi with
    | none =>
      simp only at hhi
      subst hhi
      simp [Instr.sliceBounds, Instr.sliceBound, asIntOf, h3, h1]
    | some v =>
      obtain ⟨k, rfl⟩ := hhi
      have : (hh : Int) ≤ cap := by omega
      have n2 : ¬ cap < hh := by omega
      simp [Instr.sliceBounds, Instr.sliceBound, asIntOf, this, h3, n2, h1]

theorem v_ss (h : Rel F G σ a w) (hle : σh.le σ) {t : TypeId} {y : Operand} {y' : Opd} {lo hi : Option Operand} {lo' hi' : Option Opd} (ho : o.op = .slice t y lo hi none) (hy : opdOK y y' = true) (hlo : optOK lo lo' = true) (hhi : optOK hi hi' = true) (ht : isStr P t = true) {r : Res}
    (hev : evK σh d (.ss y' lo' hi') = some r) : Val P G σ a w o r := by
  simp only [evK, hle.val] at hev
  have h1 := opd_rel h hy
  have ht' : P.underlying t = some .string := by
    unfold isStr at ht
    split at ht
    · assumption
    · cases ht
  split at hev
  case h_2 => cases hev
  rename_i s hp
  split at hev
  case h_2 => cases hev
  rename_i l hh hl hh'
  split at hev
  case isFalse => cases hev
  rename_i hb
  simp only [Option.some.injEq] at hev
  subst hev
  rw [hp] at h1
  have e1 := h1.inv_p.inv_str
  have hsz : (⟨s.toArray⟩ : ByteArray).size = s.length := by simp [ByteArray.size]
  have h2 := run_bounds (P := P) (w := w) (isS := false) (len := s.length) (cap := s.length) (bound_rel h hle hlo hl) (bound_rel h hle hhi hh') hb.1 hb.2
  refine ⟨_, .inl (by simp [execOp, ho, e1, Instr.sliceAt, Instr.slice, run_underlying ht', hsz, h2]; rfl), .p ?_, rfl, rfl⟩
  rw [ba_extract]
  exact .str _

/-- A cut of a slice. -/
theorem Rep.cut {K : Nat → Nat} {ad : Option Addr} {len cap l hh : Nat} {xs : List (List PV)} (h : Rep K w (.slice ad len cap) (.slice xs)) (h1 : l ≤ hh) (h2 : hh ≤ xs.length) {sz : Nat} (hs : ∀ e ∈ xs, e.length = sz) (hcap : len ≤ cap) :
    Rep K w (.slice (if cap = l then ad else ad.map (·.add (l * sz))) (hh - l) (cap - l)) (.slice ((xs.take hh).drop l)) := by
  by_cases hz : hh - l = 0
  · rw [hz, show (xs.take hh).drop l = [] by
      apply List.eq_nil_of_length_eq_zero
      simp
      omega]
    exact .slice0 _ _
  · generalize hv : Value.slice ad len cap = v at h
    rcases h.inv_slice with ⟨ad', cap', e1, rfl⟩ | ⟨b, off, cap', sz', f, e1, h0, hp, hK, hsz, hc, h1c, hr⟩
    · simp at h2
      omega
    · subst hv
      simp only [Value.slice.injEq] at e1
      obtain ⟨rfl, rfl, rfl⟩ := e1
      have e2 : sz' = sz := by
        obtain ⟨e, he⟩ : ∃ e, xs[0]? = some e := ⟨xs[0], by simp⟩
        rw [← hsz 0 e he]
        exact hs e (List.mem_of_getElem? he)
      subst e2
      have hne : ¬ cap = l := by omega
      rw [if_neg hne]
      simp only [Option.map_some, addr_add]
      have hget : ∀ (i : Nat) (x : List PV), ((xs.take hh).drop l)[i]? = some x → xs[l + i]? = some x ∧ l + i < hh := by
        intro i x hi
        rw [List.getElem?_drop, List.getElem?_take] at hi
        split at hi
        · exact ⟨hi, by assumption⟩
        · cases hi
      refine .slice b (off + l * sz') (hh - l) (cap - l) sz' _ (fun i j => f (l + i) j) (by omega) (by simp; omega) (by omega) ?_ (fun i x hi => hsz _ x (hget i x hi).1) (fun i x j c hi hj => ?_) (fun i x j c hi hj => h1c _ _ _ _ (hget i x hi).1 hj) (fun i x j c hi hj => hr _ _ _ _ (hget i x hi).1 hj)
      · have : (l + (hh - l)) * sz' ≤ xs.length * sz' := Nat.mul_le_mul_right _ (by omega)
        rw [Nat.add_mul] at this
        omega
      · rw [show off + l * sz' + i * sz' + j = off + (l + i) * sz' + j by rw [Nat.add_mul]; omega]
        exact hc _ _ _ _ (hget i x hi).1 hj

theorem v_sl (h : Rel F G σ a w) (hle : σh.le σ) {t : TypeId} {y : Operand} {y' : Opd} {lo hi : Option Operand} {lo' hi' : Option Opd} {sz : Nat} (ho : o.op = .slice t y lo hi none) (hy : opdOK y y' = true) (hlo : optOK lo lo' = true) (hhi : optOK hi hi' = true) (ht : sliceOK P t sz = true) {r : Res}
    (hev : evK σh d (.sl y' lo' hi' sz) = some r) : Val P G σ a w o r := by
  simp only [evK, hle.val] at hev
  have h1 := opd_rel h hy
  unfold sliceOK at ht
  split at ht
  case h_2 => cases ht
  rename_i e hu
  split at hev
  case h_2 => cases hev
  rename_i xs hp
  split at hev
  case h_2 => cases hev
  rename_i l hh hl hh'
  split at hev
  case isFalse => cases hev
  rename_i hb
  simp only [Option.some.injEq] at hev
  subst hev
  have h3 := h1.inv_elems hp
  obtain ⟨ad, cap, e1, hcap⟩ := h3.slice_len
  rw [e1] at h3
  have h2 := run_bounds (P := P) (w := w) (isS := true) (len := xs.length) (cap := cap) (bound_rel h hle hlo hl) (bound_rel h hle hhi hh') hb.1 (Nat.le_trans hb.2.1 hcap)
  exact ⟨_, .inl (by simp [execOp, ho, e1, Instr.sliceAt, Instr.slice, run_underlying hu, h2, run_sizeOf_ok ht]), .p (h3.cut hb.1 hb.2.1 hb.2.2 hcap), rfl, rfl⟩

theorem v_cvi (h : Rel F G σ a w) (hle : σh.le σ) {s t : TypeId} {k : IntKind} {y : Operand} {y' : Opd} (ho : o.op = .convert s t y) (hy : opdOK y y' = true)
    (hst : (match P.underlying s, P.underlying t with
      | some (.int _), some (.int k') => decide (k = k')
      | _, _ => false) = true) {r : Res}
    (hev : evK σh d (.cvi k y') = some r) : Val P G σ a w o r := by
  simp only [evK, hle.val] at hev
  have h1 := opd_rel h hy
  split at hst
  case h_2 => cases hst
  rename_i k1 k2 hs ht
  simp only [decide_eq_true_eq] at hst
  subst hst
  split at hev
  · rename_i k0 n hp
    simp only [Option.some.injEq] at hev
    subst hev
    rw [hp] at h1
    have e1 := h1.inv_p.inv_int
    exact ⟨_, .inl (by simp [execOp, ho, e1, convert, run_underlying hs, run_underlying ht, Conv.intToInt]), .p (.int _ _), rfl, rfl⟩
  · cases hev

theorem callee_len {c : Call} {y : Operand} {t : TypeId} (hca : c.args.toList = [y]) (hct : c.argTypes.toList = [t]) : c.args = #[y] ∧ c.argTypes = #[t] := by
  exact ⟨by rw [← Array.toArray_toList (xs := c.args), hca], by rw [← Array.toArray_toList (xs := c.argTypes), hct]⟩

theorem v_lens (h : Rel F G σ a w) (hle : σh.le σ) {c : Call} {t : TypeId} {y : Operand} {y' : Opd} (ho : o.op = .call c) (hc : c.callee = .builtin .len) (hca : c.args.toList = [y]) (hct : c.argTypes.toList = [t]) (hy : opdOK y y' = true) (ht : isStr P t = true) {r : Res}
    (hev : evK σh d (.lens y') = some r) : Val P G σ a w o r := by
  simp only [evK, hle.val] at hev
  have h1 := opd_rel h hy
  obtain ⟨e1, e2⟩ := callee_len hca hct
  have ht' : P.underlying t = some .string := by
    unfold isStr at ht
    split at ht
    · assumption
    · cases ht
  split at hev
  · rename_i s hp
    simp only [Option.some.injEq] at hev
    subst hev
    rw [hp] at h1
    have e3 := h1.inv_p.inv_str
    have hsz : (⟨s.toArray⟩ : ByteArray).size = s.length := by simp [ByteArray.size]
    exact ⟨_, .inl (by simp [execOp, ho, resolve, hc, e1, e2, invoke, builtin, Builtin.len_, run_underlying ht', e3, hsz, goInt]), .p (.int _ _), rfl, rfl⟩
  · cases hev

theorem v_len (h : Rel F G σ a w) (hle : σh.le σ) {c : Call} {t : TypeId} {y : Operand} {y' : Opd} (ho : o.op = .call c) (hc : c.callee = .builtin .len) (hca : c.args.toList = [y]) (hct : c.argTypes.toList = [t]) (hy : opdOK y y' = true) (ht : isSl P t = true) {r : Res}
    (hev : evK σh d (.len y') = some r) : Val P G σ a w o r := by
  simp only [evK, hle.val] at hev
  have h1 := opd_rel h hy
  obtain ⟨e1, e2⟩ := callee_len hca hct
  unfold isSl at ht
  split at ht
  case h_2 => cases ht
  rename_i e hu
  have key : ∀ (n cap : Nat) (ad : Option Addr), a.eval y = .slice ad n cap → Does P o a w (.int .i64 n) w := fun n cap ad e3 =>
    .inl (by simp [execOp, ho, resolve, hc, e1, e2, invoke, builtin, Builtin.len_, run_underlying hu, e3, goInt])
  rw [Option.map_eq_some_iff] at hev
  obtain ⟨xs, hx, rfl⟩ := hev
  obtain ⟨ad, cap, e3, _⟩ := (h1.inv_elems hx).slice_len
  exact ⟨_, key _ _ _ e3, .p (.int _ _), rfl, rfl⟩

theorem v_lenm (h : Rel F G σ a w) (hle : σh.le σ) {c : Call} {t : TypeId} {y : Operand} {y' : Opd} (ho : o.op = .call c) (hc : c.callee = .builtin .len) (hca : c.args.toList = [y]) (hct : c.argTypes.toList = [t]) (hy : opdOK y y' = true) (ht : isSl P t = true) {r : Res}
    (hev : evK σh d (.lenm y') = some r) : Val P G σ a w o r := by
  simp only [evK, hle.val] at hev
  have h1 := opd_rel h hy
  obtain ⟨e1, e2⟩ := callee_len hca hct
  unfold isSl at ht
  split at ht
  case h_2 => cases ht
  rename_i e hu
  have key : ∀ (n cap : Nat) (ad : Option Addr), a.eval y = .slice ad n cap → Does P o a w (.int .i64 n) w := fun n cap ad e3 =>
    .inl (by simp [execOp, ho, resolve, hc, e1, e2, invoke, builtin, Builtin.len_, run_underlying hu, e3, goInt])
  split at hev
  · rename_i g q hp
    split at hev
    case h_2 => cases hev
    rename_i q' sz' es htl
    split at hev
    case isFalse => cases hev
    rename_i hq
    subst hq
    simp only [Option.some.injEq] at hev
    subst hev
    have htl' := hle.tl _ _ htl
    rw [hp] at h1
    have e3 := h1.inv_mo htl'
    obtain ⟨bl, hrow⟩ := h.rows g _ _ htl'
    rcases hrow.inv_mu with ⟨e4, rfl, _⟩ | ⟨b, cap, cur, e, f, e4, _⟩
    · exact ⟨_, key 0 0 none (e3.trans e4), .p (.int _ _), rfl, rfl⟩
    · exact ⟨_, key _ _ _ (e3.trans e4), .p (.int _ _), rfl, rfl⟩
  · cases hev

theorem v_mx (h : Rel F G σ a w) (hle : σh.le σ) {c : Call} {y z : Operand} {y' z' : Opd} (ho : o.op = .call c) (hc : c.callee = .builtin .max) (hca : c.args.toList = [y, z]) (hy : opdOK y y' = true) (hz : opdOK z z' = true) {r : Res}
    (hev : evK σh d (.mx y' z') = some r) : Val P G σ a w o r := by
  simp only [evK, hle.val] at hev
  have h1 := opd_rel h hy
  have h2 := opd_rel h hz
  split at hev
  · rename_i k p k' q hp hq
    simp only [Option.some.injEq] at hev
    subst hev
    rw [hp] at h1
    rw [hq] at h2
    have e1 := h1.inv_p.inv_int
    have e2 := h2.inv_p.inv_int
    have hca' : c.args = #[y, z] := by rw [← Array.toArray_toList (xs := c.args), hca]
    refine ⟨_, .inl ?_, .p (.int _ _), rfl, rfl⟩
    simp [execOp, ho, resolve, hc, hca', invoke, builtin, Builtin.max_, Builtin.max2, e1, e2]
  · cases hev

theorem opds_rel (h : Rel F G σ a w) : ∀ {ys : List Operand} {xs : List Opd}, opdsOK ys xs = true → ys.length = xs.length ∧ ∀ (i : Nat) (c : IV), (xs.map σ.val)[i]? = some c → ∃ v, (ys.map a.eval)[i]? = some v ∧ IRel G σ.box σ.tl w v c
  | [], [], _ => ⟨rfl, by simp⟩
  | [], x :: xs, hx => by simp [opdsOK] at hx
  | y :: ys, [], hx => by simp [opdsOK] at hx
  | y :: ys, x :: xs, hx => by
    simp only [opdsOK, Bool.and_eq_true] at hx
    obtain ⟨hl, hi⟩ := opds_rel h hx.2
    refine ⟨by simp [hl], fun i c hc => ?_⟩
    cases i with
    | zero =>
      simp at hc
      subst hc
      exact ⟨a.eval y, by simp, opd_rel h hx.1⟩
    | succ i =>
      obtain ⟨v, h1, h2⟩ := hi i c (by simpa using hc)
      exact ⟨v, by simpa using h1, h2⟩

theorem v_mf (h : Rel F G σ a w) (hle : σh.le σ) {f : FuncId} {first caps : Array Operand} {caps' : List Opd} (ho : o.op = .makeFunc (.func f) first caps) (hf : first.isEmpty = true) (hc : opdsOK caps.toList caps' = true) {r : Res}
    (hev : evK σh d (.mf f caps') = some r) : Val P G σ a w o r := by
  have hval : σh.val = σ.val := funext hle.val
  simp only [evK, hval, Option.some.injEq] at hev
  subst hev
  obtain ⟨hl, hi⟩ := opds_rel h hc
  have hf' : first = #[] := by simpa using hf
  refine ⟨.func (.func f) #[] (caps.map a.eval), .inl (by simp [execOp, ho, Instr.makeFunc, hf']), .clo f _ _ (fun i => ((caps.map a.eval)[i]?).getD undef) (by simpa using hl) (fun i c hci => ?_) (fun i c hci => ?_), rfl, rfl⟩
  all_goals
    obtain ⟨v, h1, h2⟩ := hi i c hci
    have h3 : (caps.map a.eval)[i]? = some v := by simpa using h1
  · rw [h3]
    rfl
  · simp only [h3, Option.getD_some]
    exact h2

end

end Go.Proofs.Ytfhgjhchjekbgaa
set_option linter.unusedVariables false
set_option linter.unusedSimpArgs false
namespace Go.Proofs.Ytfhgjhchjekbgaa
open Go

section
variable {F : Fr} {G G' : Gh} {σ σ' : AS} {a : Act} {w w' : World}

theorem Rel.mem (h : Rel F G σ a w) (htmp : σ'.tmp = σ.tmp) (hext : Ext G.K G'.K w w') (hkok : KOK G'.K w')
    (hkold : ∀ b, b < F.W0.heap.size → b ∉ F.T → G'.K b = G.K b) (hkeep : Keep (fun b => b ∈ F.T ∨ F.W0.heap.size ≤ b) w w')
    (hb : ∀ s cs, σ.box s = some cs → ∃ cs', σ'.box s = some cs' ∧ G'.ρ s = G.ρ s)
    (ht : ∀ g n k, σ.tl g = some (n, k) → ∃ n' k', σ'.tl g = some (n', k') ∧ n ≤ n' ∧ (n = n' → k.leq k' (G.V g) (G'.V g)))
    (hboxes : ∀ s cs, σ'.box s = some cs → BoxOK G' σ'.box σ'.tl w' s cs)
    (hrows : ∀ g n k, σ'.tl g = some (n, k) → RowOK G'.K w' (G'.V g) k)
    (hdisj : ∀ x y b, G'.blk σ' x = some b → G'.blk σ' y = some b → x = y)
    (hboxK : ∀ s cs, σ'.box s = some cs → G'.K (G'.ρ s) = 0)
    (hmine : ∀ x b, G'.blk σ' x = some b → b ∈ F.T ∨ F.W0.heap.size ≤ b) : Rel F G' σ' a w' := by
  refine ⟨h.defers, h.tsize, fun t => ?_, hboxes, hrows, hdisj, hboxK, hmine, hkok, fun b h1 h2 => (hkold b h1 h2).trans (h.kold b h1 h2), h.ext.trans hext, ?_, fun s b hs => ?_, fun g V hg => ?_, h.pin2⟩
  · rw [htmp]
    exact (h.tmps t).mono hext hb ht
  · refine ⟨hkeep.os.trans h.keep.os, hkeep.tape.trans h.keep.tape, hkeep.output.trans h.keep.output, Nat.le_trans h.keep.size hkeep.size, fun b h1 h2 => ?_⟩
    rw [hkeep.block b (Nat.lt_of_lt_of_le h1 h.keep.size) (fun h3 => h3.elim h2 (fun h4 => by omega))]
    exact h.keep.block b h1 h2
  · obtain ⟨h1, ⟨cs, h2⟩, h3⟩ := h.pinb s b hs
    obtain ⟨cs', h4, h5⟩ := hb s cs h2
    exact ⟨h1, ⟨cs', h4⟩, h5.trans h3⟩
  · obtain ⟨h1, n, k, h2, h3⟩ := h.pinv g V hg
    obtain ⟨n', k', h4, h5, h6⟩ := ht g n k h2
    refine ⟨h1, n', k', h4, fun sz es e1 e2 => ?_⟩
    have e3 : n = n' := by omega
    have h7 := h6 e3
    subst e2
    obtain ⟨⟨sz0, es0, rfl⟩, h8⟩ := h7
    rw [h8]
    exact h3 sz0 es0 (by omega) rfl

theorem BoxOK.kept {box box' : Nat → Option (List IV)} {tl tl' : Tag → Option (Nat × RK)} {s : Nat} {cs : List IV} (h : BoxOK G box tl w s cs) (hρ : G'.ρ s = G.ρ s) (hheap : w'.heap[G.ρ s]? = w.heap[G.ρ s]?)
    (hm : ∀ v x, IRel G box tl w v x → IRel G' box' tl' w' v x) : BoxOK G' box' tl' w' s cs := by
  obtain ⟨vs, e, hg, hl, hc⟩ := h
  refine ⟨vs, e, by rw [hρ, hheap]; exact hg, hl, fun i c hi => ?_⟩
  obtain ⟨v, h1, h2, h3⟩ := hc i c hi
  exact ⟨v, h1, h2, hm v c h3⟩

theorem RowOK.kept {K K' : Nat → Nat} {V : Value} {k : RK} (h : RowOK K w V k) (hb : k ≠ .spent → ∀ b, V.ownBlock = some b → w'.heap[b]? = w.heap[b]? ∧ K' b = K b) (hext : Ext K K' w w') : RowOK K' w' V k := by
  cases k with
  | spent => trivial
  | tip m sz =>
    obtain ⟨bl, h1⟩ := h
    rcases h1.inv with ⟨rfl, rfl, rfl⟩ | ⟨b, cap, cur, e, rfl, rfl, hg, hn, hm, hs, h0, hK⟩
    · exact ⟨[], .nil sz⟩
    · obtain ⟨e1, e2⟩ := hb (by simp) b rfl
      exact ⟨[b], .row b m cap sz cur e (by rw [e1]; exact hg) hn hm hs h0 (by rw [e2]; exact hK)⟩
  | mo sz es =>
    obtain ⟨bl, h1⟩ := h
    rcases h1.inv_mu with ⟨rfl, rfl, rfl⟩ | ⟨b, cap, cur, e, f, rfl, rfl, hg, hn, hm, hz, h0, hK, hs, hc, h1c, hr⟩
    · exact ⟨[], .muNil sz⟩
    · obtain ⟨e1, e2⟩ := hb (by simp) b rfl
      exact ⟨[b], .mu b _ cap sz cur e es f (by rw [e1]; exact hg) hn hm hz h0 (by rw [e2]; exact hK) rfl hs hc h1c (fun i x j c hx hj => (hr i x j c hx hj).ext hext)⟩

/-- Where a row's block is told. -/
theorem blk_inr {G : Gh} {σ : AS} {g : Tag} {b : Nat} (h : G.blk σ (.inr g) = some b) : ∃ n k, σ.tl g = some (n, k) ∧ k ≠ .spent ∧ (G.V g).ownBlock = some b := by
  simp only [Gh.blk] at h
  split at h
  · rename_i n m sz ht
    exact ⟨n, _, ht, by simp, h⟩
  · rename_i n sz es ht
    exact ⟨n, _, ht, by simp, h⟩
  · cases h
theorem blk_inr_mk {G : Gh} {σ : AS} {g : Tag} {b n : Nat} {k : RK} (h : σ.tl g = some (n, k)) (hk : k ≠ .spent) (hV : (G.V g).ownBlock = some b) : G.blk σ (.inr g) = some b := by
  cases k with
  | spent => exact absurd rfl hk
  | tip m sz => simp only [Gh.blk, h, hV]
  | mo sz es => simp only [Gh.blk, h, hV]
theorem blk_inl {G : Gh} {σ : AS} {s b : Nat} (h : G.blk σ (.inl s) = some b) : ∃ cs, σ.box s = some cs ∧ G.ρ s = b := by
  simp only [Gh.blk] at h
  split at h
  · rename_i cs hc
    simp at h
    exact ⟨cs, hc, h⟩
  · cases h
theorem blk_inl_mk {G : Gh} {σ : AS} {s : Nat} {cs : List IV} (h : σ.box s = some cs) : G.blk σ (.inl s) = some (G.ρ s) := by simp only [Gh.blk, h]

/-- A nil slice begins a row. -/
theorem Rel.newNil (h : Rel F G σ a w) {g0 : Tag} (hf : σ.tl g0 = none) (k : RK) (hk : (∃ sz, k = .tip 0 sz) ∨ ∃ sz, k = .mo sz []) :
    ∃ G', Rel F G' (σ.setL g0 (0, k)) a w ∧ G'.K = G.K ∧ G'.ρ = G.ρ ∧ G'.V g0 = .slice none 0 0 ∧ (∀ g, g ≠ g0 → G'.V g = G.V g) ∧ (∀ v x, IRel G σ.box σ.tl w v x → IRel G' (σ.setL g0 (0, k)).box (σ.setL g0 (0, k)).tl w v x) := by
  let G' : Gh := { G with V := fun g => if g = g0 then .slice none 0 0 else G.V g }
  have hV : ∀ g, g ≠ g0 → G'.V g = G.V g := fun g hg => by simp only [G', if_neg hg]
  have hV0 : G'.V g0 = .slice none 0 0 := by simp only [G', if_true]
  have htl : ∀ g, g ≠ g0 → (σ.setL g0 (0, k)).tl g = σ.tl g := fun g hg => by simp only [AS.setL, if_neg hg]
  have htl0 : (σ.setL g0 (0, k)).tl g0 = some (0, k) := by simp only [AS.setL, if_true]
  have hmt : ∀ g n k', σ.tl g = some (n, k') → ∃ n' k'', (σ.setL g0 (0, k)).tl g = some (n', k'') ∧ n ≤ n' ∧ (n = n' → k'.leq k'' (G.V g) (G'.V g)) := by
    intro g n k' hg
    have hne : g ≠ g0 := fun e => by rw [e, hf] at hg; cases hg
    exact ⟨n, k', by rw [htl g hne]; exact hg, Nat.le_refl _, fun _ => by rw [hV g hne]; exact RK.leq_refl _ _⟩
  have hmono : ∀ v x, IRel G σ.box σ.tl w v x → IRel G' (σ.setL g0 (0, k)).box (σ.setL g0 (0, k)).tl w v x := fun v x hv => hv.mono (Ext.refl _ _) (fun s cs hs => ⟨cs, hs, rfl⟩) hmt
  have hblk : ∀ x b, G'.blk (σ.setL g0 (0, k)) x = some b → G.blk σ x = some b := by
    intro x b hx
    cases x with
    | inl s =>
      obtain ⟨cs, h1, h2⟩ := blk_inl hx
      exact h2 ▸ blk_inl_mk (G := G) (σ := σ) h1
    | inr g =>
      obtain ⟨n, k', h1, h2, h3⟩ := blk_inr hx
      by_cases hg : g = g0
      · subst hg
        rw [hV0] at h3
        simp [Value.ownBlock] at h3
      · rw [htl g hg] at h1
        rw [hV g hg] at h3
        exact blk_inr_mk h1 h2 h3
  refine ⟨G', h.mem rfl (Ext.refl _ _) h.kok (fun _ _ _ => rfl) (Keep.refl _ _) (fun s cs hs => ⟨cs, hs, rfl⟩) hmt (fun s cs hs => ?_) (fun g n k' hg => ?_) (fun x y b hx hy => h.disj x y b (hblk x b hx) (hblk y b hy)) (fun s cs hs => h.boxK s cs hs) (fun x b hx => h.mine x b (hblk x b hx)), rfl, rfl, hV0, hV, hmono⟩
  · exact (h.boxes s cs hs).kept rfl rfl hmono
  · by_cases hg0 : g = g0
    · subst hg0
      rw [htl0] at hg
      simp only [Option.some.injEq, Prod.mk.injEq] at hg
      obtain ⟨rfl, rfl⟩ := hg
      rw [hV0]
      rcases hk with ⟨sz, rfl⟩ | ⟨sz, rfl⟩
      · exact ⟨[], .nil sz⟩
      · exact ⟨[], .muNil sz⟩
    · rw [htl g hg0] at hg
      rw [hV g hg0]
      exact h.rows g n k' hg

theorem kok_alloc {K : Nat → Nat} (h : KOK K w) (o : Obj) : KOK K (w.alloc o) := by
  intro b hb
  obtain ⟨cs, e, fr, h1, h2⟩ := h b hb
  exact ⟨cs, e, fr, by rw [heap_alloc_old _ _ _ (h.lt hb)]; exact h1, h2⟩
theorem ext_alloc {K : Nat → Nat} (h : KOK K w) (o : Obj) : Ext K K w (w.alloc o) :=
  ⟨fun _ => Nat.le_refl _, fun b i hi => cell_of_heap (heap_alloc_old _ _ _ (h.lt (by omega)))⟩

/-- A new variable. -/
theorem Rel.newBox (h : Rel F G σ a w) {d : Nat} (hf : σ.box d = none) {vs : Array Value} {e : TypeId} {cs : List IV} (hl : cs.length ≤ vs.size)
    (hc : ∀ (i : Nat) (c : IV), cs[i]? = some c → ∃ v, vs[i]? = some v ∧ v.oneCell' = true ∧ IRel G σ.box σ.tl w v c) :
    ∃ G', Rel F G' (σ.setB d cs) a (w.alloc (.cells vs e)) ∧ G'.K = G.K ∧ G'.V = G.V ∧ G'.ρ d = w.heap.size ∧ (∀ v x, IRel G σ.box σ.tl w v x → IRel G' (σ.setB d cs).box (σ.setB d cs).tl (w.alloc (.cells vs e)) v x) := by
  let G' : Gh := { G with ρ := fun s => if s = d then w.heap.size else G.ρ s }
  have hρ : ∀ s, s ≠ d → G'.ρ s = G.ρ s := fun s hs => by simp only [G', if_neg hs]
  have hρ0 : G'.ρ d = w.heap.size := by simp only [G', if_true]
  have hbx : ∀ s, s ≠ d → (σ.setB d cs).box s = σ.box s := fun s hs => by simp only [AS.setB, if_neg hs]
  have hbx0 : (σ.setB d cs).box d = some cs := by simp only [AS.setB, if_true]
  have hne : ∀ s cs', σ.box s = some cs' → s ≠ d := fun s cs' hs e => by rw [e, hf] at hs; cases hs
  have hmb : ∀ s cs', σ.box s = some cs' → ∃ cs'', (σ.setB d cs).box s = some cs'' ∧ G'.ρ s = G.ρ s := fun s cs' hs => ⟨cs', by rw [hbx s (hne s cs' hs)]; exact hs, hρ s (hne s cs' hs)⟩
  have hmt : ∀ g n k', σ.tl g = some (n, k') → ∃ n' k'', (σ.setB d cs).tl g = some (n', k'') ∧ n ≤ n' ∧ (n = n' → k'.leq k'' (G.V g) (G'.V g)) := fun g n k' hg => ⟨n, k', hg, Nat.le_refl _, fun _ => RK.leq_refl _ _⟩
  have hext : Ext G.K G'.K w (w.alloc (.cells vs e)) := ext_alloc h.kok _
  have hmono : ∀ v x, IRel G σ.box σ.tl w v x → IRel G' (σ.setB d cs).box (σ.setB d cs).tl (w.alloc (.cells vs e)) v x := fun v x hv => hv.mono hext hmb hmt
  have hblk : ∀ x b, G'.blk (σ.setB d cs) x = some b → (x = .inl d ∧ b = w.heap.size) ∨ (G.blk σ x = some b ∧ x ≠ .inl d) := by
    intro x b hx
    cases x with
    | inl s =>
      obtain ⟨cs', h1, h2⟩ := blk_inl hx
      by_cases hs : s = d
      · subst hs
        exact .inl ⟨rfl, by rw [← h2, hρ0]⟩
      · rw [hbx s hs] at h1
        rw [hρ s hs] at h2
        exact .inr ⟨h2 ▸ blk_inl_mk (G := G) (σ := σ) h1, by simp [hs]⟩
    | inr g =>
      obtain ⟨n, k', h1, h2, h3⟩ := blk_inr hx
      exact .inr ⟨blk_inr_mk (G := G) (σ := σ) h1 h2 h3, by simp⟩
  refine ⟨G', h.mem rfl hext (kok_alloc h.kok _) (fun _ _ _ => rfl) (Keep.alloc _ _ _) hmb hmt (fun s cs' hs => ?_) (fun g n k' hg => ?_) (fun x y b hx hy => ?_) (fun s cs' hs => ?_) (fun x b hx => ?_), rfl, rfl, hρ0, hmono⟩
  · by_cases hs0 : s = d
    · subst hs0
      rw [hbx0] at hs
      simp only [Option.some.injEq] at hs
      subst hs
      refine ⟨vs, e, by rw [hρ0]; exact heap_alloc_new w _, hl, fun i c hi => ?_⟩
      obtain ⟨v, h1, h2, h3⟩ := hc i c hi
      exact ⟨v, h1, h2, hmono v c h3⟩
    · rw [hbx s hs0] at hs
      exact (h.boxes s cs' hs).kept (hρ s hs0) (heap_alloc_old _ _ _ (h.blkLt (blk_inl_mk hs))) hmono
  · exact (h.rows g n k' hg).kept (fun hk b hb => ⟨heap_alloc_old _ _ _ (h.blkLt (blk_inr_mk hg hk hb)), rfl⟩) hext
  · rcases hblk x b hx with ⟨rfl, rfl⟩ | ⟨h1, h1'⟩ <;> rcases hblk y _ hy with ⟨rfl, h2⟩ | ⟨h2, h2'⟩
    · rfl
    · have := h.blkLt h2
      omega
    · have := h.blkLt h1
      omega
    · exact h.disj x y b h1 h2
  · by_cases hs0 : s = d
    · subst hs0
      rw [hρ0]
      exact h.kok.zero (Nat.le_refl _)
    · rw [hbx s hs0] at hs
      rw [hρ s hs0]
      exact h.boxK s cs' hs
  · rcases hblk x b hx with ⟨rfl, rfl⟩ | ⟨h1, _⟩
    · exact .inr h.keep.size
    · exact h.mine x b h1

/-- Cells that read as elements, one after the other. -/
structure Flat (K : Nat → Nat) (w : World) (vs : List Value) (es : List (List PV)) (sz : Nat) : Prop where
  mk ::
  len : vs.length = es.length * sz
  el : ∀ e ∈ es, e.length = sz
  cell : ∀ (i : Nat) (e : List PV) (j : Nat) (c : PV), es[i]? = some e → e[j]? = some c → ∃ v, vs[i * sz + j]? = some v ∧ v.oneCell' = true ∧ Rep K w v c

theorem Flat.nil (K : Nat → Nat) (w : World) (sz : Nat) : Flat K w [] [] sz := ⟨by simp, by simp, by simp⟩
theorem Flat.ext {K K' : Nat → Nat} {vs : List Value} {es : List (List PV)} {sz : Nat} (h : Flat K w vs es sz) (he : Ext K K' w w') : Flat K' w' vs es sz :=
  ⟨h.len, h.el, fun i e j c hi hj => by
    obtain ⟨v, h1, h2, h3⟩ := h.cell i e j c hi hj
    exact ⟨v, h1, h2, h3.ext he⟩⟩
theorem Flat.append {K : Nat → Nat} {vs us : List Value} {es fs : List (List PV)} {sz : Nat} (h : Flat K w vs es sz) (h' : Flat K w us fs sz) : Flat K w (vs ++ us) (es ++ fs) sz := by
  refine ⟨by simp [h.len, h'.len, Nat.add_mul], fun e he => ?_, fun i e j c hi hj => ?_⟩
  · rcases List.mem_append.1 he with h1 | h1
    · exact h.el e h1
    · exact h'.el e h1
  · have hjl := lt_of_getElem? hj
    by_cases hlt : i < es.length
    · rw [List.getElem?_append_left hlt] at hi
      obtain ⟨v, h1, h2⟩ := h.cell i e j c hi hj
      have h3 := lt_of_getElem? h1
      exact ⟨v, by rw [List.getElem?_append_left h3]; exact h1, h2⟩
    · rw [List.getElem?_append_right (by omega)] at hi
      obtain ⟨v, h1, h2⟩ := h'.cell (i - es.length) e j c hi hj
      refine ⟨v, ?_, h2⟩
      have hge : es.length * sz ≤ i * sz := Nat.mul_le_mul_right _ (by omega)
      rw [List.getElem?_append_right (by rw [h.len]; omega), h.len, show i * sz + j - es.length * sz = (i - es.length) * sz + j by rw [Nat.sub_mul]; omega]
      exact h1
/-- The cells of a slice. -/
theorem Rep.flat {K : Nat → Nat} {v : Value} {xs : List (List PV)} {sz : Nat} (h : Rep K w v (.slice xs)) (hs : ∀ e ∈ xs, e.length = sz) :
    ∃ ad cap vs, v = .slice ad xs.length cap ∧ Flat K w vs xs sz ∧ (xs = [] ∨ ∃ b off, ad = some ⟨b, off, none⟩ ∧ ∀ (j : Nat) (u : Value), vs[j]? = some u → w.cell? ⟨b, off + j, none⟩ = some u) := by
  rcases h.inv_slice with ⟨ad, cap, rfl, rfl⟩ | ⟨b, off, cap, sz', f, rfl, h0, hp, hK, hsz, hc, h1, hr⟩
  · exact ⟨ad, cap, [], rfl, Flat.nil K w sz, .inl rfl⟩
  · obtain ⟨e0, he0⟩ : ∃ e, xs[0]? = some e := ⟨xs[0], by simp⟩
    have e2 : sz' = sz := by
      rw [← hsz 0 e0 he0]
      exact hs e0 (List.mem_of_getElem? he0)
    subst e2
    have hdiv : ∀ j, j < xs.length * sz' → 0 < sz' ∧ j / sz' < xs.length ∧ j % sz' < sz' := by
      intro j hj
      have hz : 0 < sz' := by
        rcases Nat.eq_zero_or_pos sz' with h2 | h2
        · subst h2
          simp at hj
        · exact h2
      exact ⟨hz, (Nat.div_lt_iff_lt_mul hz).2 hj, Nat.mod_lt _ hz⟩
    refine ⟨some ⟨b, off, none⟩, cap, (List.range (xs.length * sz')).map fun j => f (j / sz') (j % sz'), rfl, ⟨by simp, hs, fun i e j c hi hj => ?_⟩, .inr ⟨_, _, rfl, fun j u hj => ?_⟩⟩
    · have hi' := lt_of_getElem? hi
      have hj' := lt_of_getElem? hj
      rw [hsz i e hi] at hj'
      have hlt := mulAdd_lt hi' hj'
      have hz : 0 < sz' := by omega
      refine ⟨f i j, ?_, h1 i e j c hi hj, hr i e j c hi hj⟩
      simp only [List.getElem?_map, List.getElem?_range hlt, Option.map_some]
      congr 2
      · rw [Nat.mul_comm, Nat.mul_add_div hz, Nat.div_eq_of_lt hj']
        rfl
      · rw [Nat.mul_comm, Nat.mul_add_mod, Nat.mod_eq_of_lt hj']
    · have hlt : j < xs.length * sz' := by
        have := lt_of_getElem? hj
        simpa using this
      obtain ⟨hz, hd, hm⟩ := hdiv j hlt
      simp only [List.getElem?_map, List.getElem?_range hlt, Option.map_some, Option.some.injEq] at hj
      subst hj
      have hx : xs[j / sz']? = some xs[j / sz'] := List.getElem?_eq_getElem hd
      have hl : (xs[j / sz']).length = sz' := hsz _ _ hx
      have := hc (j / sz') _ (j % sz') ((xs[j / sz'])[j % sz']'(by omega)) hx (by simp)
      have h9 := Nat.div_add_mod j sz'
      rw [Nat.mul_comm] at h9
      rw [← this, show off + j / sz' * sz' + j % sz' = off + j by omega]

end

end Go.Proofs.Ytfhgjhchjekbgaa
set_option linter.unusedVariables false
set_option linter.unusedSimpArgs false
namespace Go.Proofs.Ytfhgjhchjekbgaa
open Go

section
variable {F : Fr} {G G' : Gh} {σ σ' : AS} {a : Act} {w w' : World}

theorem Rel.drew (h : Rel F G σ a w) : Rel F G σ a w.drew := by
  refine h.mem rfl (Ext.of_keep (T := fun _ => False) (Keep.drew _ _) h.kok (fun _ hf => hf.elim)) (fun b hb => h.kok b hb) (fun _ _ _ => rfl) (Keep.drew _ _) (fun s cs hs => ⟨cs, hs, rfl⟩) (fun g n k hg => ⟨n, k, hg, Nat.le_refl _, fun _ => RK.leq_refl _ _⟩) (fun s cs hs => ?_) (fun g n k hg => ?_) h.disj h.boxK h.mine
  · exact (h.boxes s cs hs).kept rfl rfl (fun v x hv => hv.mono (Ext.of_keep (T := fun _ => False) (Keep.drew _ _) h.kok (fun _ hf => hf.elim)) (fun s cs hs => ⟨cs, hs, rfl⟩) (fun g n k hg => ⟨n, k, hg, Nat.le_refl _, fun _ => RK.leq_refl _ _⟩))
  · exact (h.rows g n k hg).kept (fun _ b hb => ⟨rfl, rfl⟩) (Ext.of_keep (T := fun _ => False) (Keep.drew _ _) h.kok (fun _ hf => hf.elim))

/-- A row begins, or goes on, in a new block. -/
theorem Rel.rowAlloc (h : Rel F G σ a w) {g0 : Tag} {r : Nat} {k : RK} {V' : Value} {cur : Array Value} {e : TypeId} {K' : Nat → Nat} (hV : V'.ownBlock = some w.heap.size) (hk : k ≠ .spent)
    (hK : ∀ b, b ≠ w.heap.size → K' b = G.K b) (hK0 : K' w.heap.size ≤ cur.size)
    (hold : ∀ n0 k0, σ.tl g0 = some (n0, k0) → n0 ≤ r ∧ (n0 = r → k0.leq k (G.V g0) V'))
    (hrow : Ext G.K K' w (w.alloc (.cells cur e)) → RowOK K' (w.alloc (.cells cur e)) V' k) :
    ∃ G', Rel F G' (σ.setL g0 (r, k)) a (w.alloc (.cells cur e)) ∧ G'.K = K' ∧ G'.ρ = G.ρ ∧ G'.V g0 = V' ∧ (∀ v x, IRel G σ.box σ.tl w v x → IRel G' (σ.setL g0 (r, k)).box (σ.setL g0 (r, k)).tl (w.alloc (.cells cur e)) v x) := by
  let G' : Gh := { K := K', ρ := G.ρ, V := fun g => if g = g0 then V' else G.V g }
  have hVn : ∀ g, g ≠ g0 → G'.V g = G.V g := fun g hg => by simp only [G', if_neg hg]
  have hV0 : G'.V g0 = V' := by simp only [G', if_true]
  have htl : ∀ g, g ≠ g0 → (σ.setL g0 (r, k)).tl g = σ.tl g := fun g hg => by simp only [AS.setL, if_neg hg]
  have htl0 : (σ.setL g0 (r, k)).tl g0 = some (r, k) := by simp only [AS.setL, if_true]
  have hKz : G.K w.heap.size = 0 := h.kok.zero (Nat.le_refl _)
  have hext : Ext G.K K' w (w.alloc (.cells cur e)) := by
    refine ⟨fun b => ?_, (ext_alloc h.kok _).cell⟩
    by_cases hb : b = w.heap.size
    · subst hb
      omega
    · rw [hK b hb]
      exact Nat.le_refl _
  have hmt : ∀ g n k', σ.tl g = some (n, k') → ∃ n' k'', (σ.setL g0 (r, k)).tl g = some (n', k'') ∧ n ≤ n' ∧ (n = n' → k'.leq k'' (G.V g) (G'.V g)) := by
    intro g n k' hg
    by_cases hne : g = g0
    · subst hne
      obtain ⟨h1, h2⟩ := hold n k' hg
      exact ⟨r, k, htl0, h1, fun e1 => by rw [hV0]; exact h2 e1⟩
    · exact ⟨n, k', by rw [htl g hne]; exact hg, Nat.le_refl _, fun _ => by rw [hVn g hne]; exact RK.leq_refl _ _⟩
  have hmono : ∀ v x, IRel G σ.box σ.tl w v x → IRel G' (σ.setL g0 (r, k)).box (σ.setL g0 (r, k)).tl (w.alloc (.cells cur e)) v x := fun v x hv => hv.mono hext (fun s cs hs => ⟨cs, hs, rfl⟩) hmt
  have hblk : ∀ x b, G'.blk (σ.setL g0 (r, k)) x = some b → (x = .inr g0 ∧ b = w.heap.size) ∨ (G.blk σ x = some b ∧ x ≠ .inr g0) := by
    intro x b hx
    cases x with
    | inl s =>
      obtain ⟨cs, h1, h2⟩ := blk_inl hx
      exact .inr ⟨h2 ▸ blk_inl_mk (G := G) (σ := σ) h1, by simp⟩
    | inr g =>
      obtain ⟨n, k', h1, h2, h3⟩ := blk_inr hx
      by_cases hg : g = g0
      · subst hg
        rw [hV0, hV] at h3
        simp at h3
        exact .inl ⟨rfl, h3.symm⟩
      · rw [htl g hg] at h1
        rw [hVn g hg] at h3
        exact .inr ⟨blk_inr_mk h1 h2 h3, by simp [hg]⟩
  refine ⟨G', h.mem rfl hext ?_ (fun b hb _ => hK b (by have := h.keep.size; omega)) (Keep.alloc _ _ _) (fun s cs hs => ⟨cs, hs, rfl⟩) hmt (fun s cs hs => ?_) (fun g n k' hg => ?_) (fun x y b hx hy => ?_) (fun s cs hs => ?_) (fun x b hx => ?_), rfl, rfl, hV0, hmono⟩
  · intro b hb
    by_cases hb0 : b = w.heap.size
    · subst hb0
      exact ⟨cur, e, (0, 0), heap_alloc_new w _, hK0⟩
    · have hb' : 0 < G.K b := by rw [← hK b hb0]; exact hb
      obtain ⟨cs, e', fr, h1, h2⟩ := h.kok b hb'
      exact ⟨cs, e', fr, by rw [heap_alloc_old _ _ _ (h.kok.lt hb')]; exact h1, by show K' b ≤ _; rw [hK b hb0]; exact h2⟩
  · exact (h.boxes s cs hs).kept rfl (heap_alloc_old _ _ _ (h.blkLt (blk_inl_mk hs))) hmono
  · by_cases hg0 : g = g0
    · subst hg0
      rw [htl0] at hg
      simp only [Option.some.injEq, Prod.mk.injEq] at hg
      obtain ⟨rfl, rfl⟩ := hg
      rw [hV0]
      exact hrow hext
    · rw [htl g hg0] at hg
      rw [hVn g hg0]
      exact (h.rows g n k' hg).kept (fun hk' b hb => by
        have := h.blkLt (blk_inr_mk hg hk' hb)
        exact ⟨heap_alloc_old _ _ _ this, hK b (by omega)⟩) hext
  · rcases hblk x b hx with ⟨rfl, rfl⟩ | ⟨h1, h1'⟩ <;> rcases hblk y _ hy with ⟨rfl, h2⟩ | ⟨h2, h2'⟩
    · rfl
    · have := h.blkLt h2
      omega
    · have := h.blkLt h1
      omega
    · exact h.disj x y b h1 h2
  · show K' (G.ρ s) = 0
    have h9 := h.blkLt (blk_inl_mk (G := G) hs)
    rw [hK (G.ρ s) (by omega)]
    exact h.boxK s cs hs
  · rcases hblk x b hx with ⟨rfl, rfl⟩ | ⟨h1, _⟩
    · exact .inr h.keep.size
    · exact h.mine x b h1

/-- A row's block is written: behind its marks, or where there are none. -/
theorem Rel.rowPut (h : Rel F G σ a w) {g0 : Tag} {r b0 : Nat} {k : RK} {V' : Value} {cur cur' : Array Value} {e : TypeId} {K' : Nat → Nat} (hg0 : w.heap[b0]? = some (.cells cur e (0, 0)))
    {n1 : Nat} {k1 : RK} (ht1 : σ.tl g0 = some (n1, k1)) (hk1 : k1 ≠ .spent) (hV1 : (G.V g0).ownBlock = some b0) (hV : V'.ownBlock = some b0) (hk : k ≠ .spent)
    (hK : ∀ b, b ≠ b0 → K' b = G.K b) (hK0 : G.K b0 ≤ K' b0) (hK1 : K' b0 ≤ cur'.size) (hsame : ∀ i, i < G.K b0 → cur'[i]? = cur[i]?)
    (hold : n1 ≤ r ∧ (n1 = r → k1.leq k (G.V g0) V'))
    (hrow : Ext G.K K' w (w.setRow b0 cur') → RowOK K' (w.setRow b0 cur') V' k) :
    ∃ G', Rel F G' (σ.setL g0 (r, k)) a (w.setRow b0 cur') ∧ G'.K = K' ∧ G'.ρ = G.ρ ∧ G'.V g0 = V' ∧ (∀ v x, IRel G σ.box σ.tl w v x → IRel G' (σ.setL g0 (r, k)).box (σ.setL g0 (r, k)).tl (w.setRow b0 cur') v x) := by
  let G' : Gh := { K := K', ρ := G.ρ, V := fun g => if g = g0 then V' else G.V g }
  have hVn : ∀ g, g ≠ g0 → G'.V g = G.V g := fun g hg => by simp only [G', if_neg hg]
  have hV0 : G'.V g0 = V' := by simp only [G', if_true]
  have htl : ∀ g, g ≠ g0 → (σ.setL g0 (r, k)).tl g = σ.tl g := fun g hg => by simp only [AS.setL, if_neg hg]
  have htl0 : (σ.setL g0 (r, k)).tl g0 = some (r, k) := by simp only [AS.setL, if_true]
  have hblk0 : G.blk σ (.inr g0) = some b0 := blk_inr_mk ht1 hk1 hV1
  have hheap : (w.setRow b0 cur').heap[b0]? = some (.cells cur' e (0, 0)) := setRow_heap w b0 cur cur' e _ hg0
  have hext : Ext G.K K' w (w.setRow b0 cur') := by
    refine ⟨fun b => ?_, fun b o ho => ?_⟩
    · by_cases hb : b = b0
      · subst hb
        exact hK0
      · rw [hK b hb]
        exact Nat.le_refl _
    · by_cases hb : b = b0
      · subst hb
        rw [cell_heap hheap, cell_heap hg0]
        exact hsame o ho
      · exact cell_of_heap (setRow_other w b0 b cur' hb)
  have hmt : ∀ g n k', σ.tl g = some (n, k') → ∃ n' k'', (σ.setL g0 (r, k)).tl g = some (n', k'') ∧ n ≤ n' ∧ (n = n' → k'.leq k'' (G.V g) (G'.V g)) := by
    intro g n k' hg
    by_cases hne : g = g0
    · subst hne
      rw [ht1] at hg
      simp only [Option.some.injEq, Prod.mk.injEq] at hg
      obtain ⟨rfl, rfl⟩ := hg
      exact ⟨r, k, htl0, hold.1, fun e1 => by rw [hV0]; exact hold.2 e1⟩
    · exact ⟨n, k', by rw [htl g hne]; exact hg, Nat.le_refl _, fun _ => by rw [hVn g hne]; exact RK.leq_refl _ _⟩
  have hmono : ∀ v x, IRel G σ.box σ.tl w v x → IRel G' (σ.setL g0 (r, k)).box (σ.setL g0 (r, k)).tl (w.setRow b0 cur') v x := fun v x hv => hv.mono hext (fun s cs hs => ⟨cs, hs, rfl⟩) hmt
  have hblk : ∀ x b, G'.blk (σ.setL g0 (r, k)) x = some b → G.blk σ x = some b := by
    intro x b hx
    cases x with
    | inl s =>
      obtain ⟨cs, h1, h2⟩ := blk_inl hx
      exact h2 ▸ blk_inl_mk (G := G) (σ := σ) h1
    | inr g =>
      obtain ⟨n, k', h1, h2, h3⟩ := blk_inr hx
      by_cases hg : g = g0
      · subst hg
        rw [hV0, hV] at h3
        rw [← h3]
        exact hblk0
      · rw [htl g hg] at h1
        rw [hVn g hg] at h3
        exact blk_inr_mk h1 h2 h3
  have hother : ∀ x b, G.blk σ x = some b → x ≠ .inr g0 → b ≠ b0 := fun x b hx hne e1 => hne (h.disj x _ b hx (e1 ▸ hblk0))
  refine ⟨G', h.mem rfl hext ?_ (fun b hb hnT => ?_) (Keep.setRow _ _ _ _ (h.mine _ _ hblk0)) (fun s cs hs => ⟨cs, hs, rfl⟩) hmt (fun s cs hs => ?_) (fun g n k' hg => ?_) (fun x y b hx hy => h.disj x y b (hblk x b hx) (hblk y b hy)) (fun s cs hs => ?_) (fun x b hx => h.mine x b (hblk x b hx)), rfl, rfl, hV0, hmono⟩
  · intro b hb
    by_cases hb0 : b = b0
    · subst hb0
      exact ⟨cur', e, (0, 0), hheap, hK1⟩
    · have hb' : 0 < G.K b := by rw [← hK b hb0]; exact hb
      obtain ⟨cs, e', fr, h1, h2⟩ := h.kok b hb'
      exact ⟨cs, e', fr, by rw [setRow_other w b0 b cur' hb0]; exact h1, by show K' b ≤ _; rw [hK b hb0]; exact h2⟩
  · refine hK b fun e1 => ?_
    subst e1
    rcases h.mine _ _ hblk0 with h1 | h1
    · exact hnT h1
    · omega
  · exact (h.boxes s cs hs).kept rfl (setRow_other w b0 _ cur' (hother (.inl s) _ (blk_inl_mk hs) (by simp))) hmono
  · by_cases hgg : g = g0
    · subst hgg
      rw [htl0] at hg
      simp only [Option.some.injEq, Prod.mk.injEq] at hg
      obtain ⟨rfl, rfl⟩ := hg
      rw [hV0]
      exact hrow hext
    · rw [htl g hgg] at hg
      rw [hVn g hgg]
      exact (h.rows g n k' hg).kept (fun hk' b hb => by
        have := hother (.inr g) b (blk_inr_mk hg hk' hb) (by simp [hgg])
        exact ⟨setRow_other w b0 b cur' this, hK b this⟩) hext
  · show K' (G.ρ s) = 0
    rw [hK (G.ρ s) (hother (.inl s) _ (blk_inl_mk (G := G) hs) (by simp))]
    exact h.boxK s cs hs

/-- A variable's cells are written. -/
theorem Rel.boxPut (h : Rel F G σ a w) {s0 : Nat} {cs0 cs : List IV} (hs0 : σ.box s0 = some cs0) {cur cur' : Array Value} {e : TypeId} (hg0 : w.heap[G.ρ s0]? = some (.cells cur e (0, 0))) (hl : cs.length ≤ cur'.size)
    (hc : ∀ (i : Nat) (c : IV), cs[i]? = some c → ∃ v, cur'[i]? = some v ∧ v.oneCell' = true ∧ IRel G σ.box σ.tl w v c) :
    Rel F G (σ.setB s0 cs) a (w.setRow (G.ρ s0) cur') ∧ (∀ v x, IRel G σ.box σ.tl w v x → IRel G (σ.setB s0 cs).box (σ.setB s0 cs).tl (w.setRow (G.ρ s0) cur') v x) := by
  have hbx : ∀ s, s ≠ s0 → (σ.setB s0 cs).box s = σ.box s := fun s hs => by simp only [AS.setB, if_neg hs]
  have hbx0 : (σ.setB s0 cs).box s0 = some cs := by simp only [AS.setB, if_true]
  have hblk0 : G.blk σ (.inl s0) = some (G.ρ s0) := blk_inl_mk hs0
  have hK0 : G.K (G.ρ s0) = 0 := h.boxK s0 cs0 hs0
  have hheap : (w.setRow (G.ρ s0) cur').heap[G.ρ s0]? = some (.cells cur' e (0, 0)) := setRow_heap w _ cur cur' e _ hg0
  have hext : Ext G.K G.K w (w.setRow (G.ρ s0) cur') := by
    refine ⟨fun b => Nat.le_refl _, fun b o ho => ?_⟩
    by_cases hb : b = G.ρ s0
    · subst hb
      omega
    · exact cell_of_heap (setRow_other w _ b cur' hb)
  have hmb : ∀ s cs', σ.box s = some cs' → ∃ cs'', (σ.setB s0 cs).box s = some cs'' ∧ G.ρ s = G.ρ s := by
    intro s cs' hs
    by_cases hne : s = s0
    · subst hne
      exact ⟨cs, hbx0, rfl⟩
    · exact ⟨cs', by rw [hbx s hne]; exact hs, rfl⟩
  have hmt : ∀ g n k', σ.tl g = some (n, k') → ∃ n' k'', (σ.setB s0 cs).tl g = some (n', k'') ∧ n ≤ n' ∧ (n = n' → k'.leq k'' (G.V g) (G.V g)) := fun g n k' hg => ⟨n, k', hg, Nat.le_refl _, fun _ => RK.leq_refl _ _⟩
  have hmono : ∀ v x, IRel G σ.box σ.tl w v x → IRel G (σ.setB s0 cs).box (σ.setB s0 cs).tl (w.setRow (G.ρ s0) cur') v x := fun v x hv => hv.mono hext hmb hmt
  have hblk : ∀ x b, G.blk (σ.setB s0 cs) x = some b → G.blk σ x = some b := by
    intro x b hx
    cases x with
    | inl s =>
      obtain ⟨cs', h1, h2⟩ := blk_inl hx
      by_cases hs : s = s0
      · subst hs
        exact h2 ▸ hblk0
      · rw [hbx s hs] at h1
        exact h2 ▸ blk_inl_mk (G := G) (σ := σ) h1
    | inr g =>
      obtain ⟨n, k', h1, h2, h3⟩ := blk_inr hx
      exact blk_inr_mk (G := G) (σ := σ) h1 h2 h3
  have hother : ∀ x b, G.blk σ x = some b → x ≠ .inl s0 → b ≠ G.ρ s0 := fun x b hx hne e1 => hne (h.disj x _ b hx (e1 ▸ hblk0))
  refine ⟨h.mem rfl hext (fun b hb => ?_) (fun b hb hnT => rfl) (Keep.setRow _ _ _ _ (h.mine _ _ hblk0)) hmb hmt (fun s cs' hs => ?_) (fun g n k' hg => ?_) (fun x y b hx hy => h.disj x y b (hblk x b hx) (hblk y b hy)) (fun s cs' hs => ?_) (fun x b hx => h.mine x b (hblk x b hx)), hmono⟩
  · have hne : b ≠ G.ρ s0 := fun e1 => by rw [e1, hK0] at hb; omega
    rw [setRow_other w _ b cur' hne]
    exact h.kok b hb
  · by_cases hgg : s = s0
    · subst hgg
      rw [hbx0] at hs
      simp only [Option.some.injEq] at hs
      subst hs
      refine ⟨cur', e, hheap, hl, fun i c hi => ?_⟩
      obtain ⟨v, h1, h2, h3⟩ := hc i c hi
      exact ⟨v, h1, h2, hmono v c h3⟩
    · rw [hbx s hgg] at hs
      exact (h.boxes s cs' hs).kept rfl (setRow_other w _ _ cur' (hother (.inl s) _ (blk_inl_mk hs) (by simp [hgg]))) hmono
  · exact (h.rows g n k' hg).kept (fun hk' b hb => by
      have := hother (.inr g) b (blk_inr_mk hg hk' hb) (by simp)
      exact ⟨setRow_other w _ b cur' this, rfl⟩) hext
  · by_cases hgg : s = s0
    · subst hgg
      exact hK0
    · rw [hbx s hgg] at hs
      exact h.boxK s cs' hs

end

end Go.Proofs.Ytfhgjhchjekbgaa
set_option linter.unusedVariables false
set_option linter.unusedSimpArgs false
namespace Go.Proofs.Ytfhgjhchjekbgaa
open Go

/-- Before the result is put away. -/
def AS.mid (σ : AS) (r : Res) : AS := (σ.setBs r.bx).setLs r.tls

section
variable {F : Fr} {G G' : Gh} {σ σh : AS} {a : Act} {w w' : World} {P : Program} {o : Oper} {d : Nat}

/-- What an operation comes to, ahead of putting its result away. -/
def Out (P : Program) (F : Fr) (σ : AS) (a : Act) (w : World) (o : Oper) (r : Res) : Prop :=
  ∃ G' v w', Does P o a w v w' ∧ Rel F G' (σ.mid r) a w' ∧ IRel G' (σ.mid r).box (σ.mid r).tl w' v r.v

theorem Val.out (h : Rel F G σ a w) {r : Res} (hv : Val P G σ a w o r) : Out P F σ a w o r := by
  obtain ⟨v, h1, h2, h3, h4⟩ := hv
  have e : σ.mid r = σ := by simp [AS.mid, h3, h4, AS.setBs, AS.setLs]
  exact ⟨G, v, w, h1, by rw [e]; exact h, by rw [e]; exact h2⟩

theorem IRel.inv_nil {b : Nat → Option (List IV)} {t : Tag → Option (Nat × RK)} {v : Value} {sz : Nat} (h : IRel G b t w v (.nil sz)) : v = .slice none 0 0 := by cases h; rfl

theorem isNone_eq {α : Type} {x : Option α} (h : x.isNone = true) : x = none := by simpa using h

theorem m_asg (h : Rel F G σ a w) {y : Operand} {x : Opd} (ho : o.op = .assign y) (hx : opdOK y x = true) {r : Res} (hev : evK σ d (.asg x) = some r) : Out P F σ a w o r := by
  have h1 := opd_rel h hx
  simp only [evK] at hev
  split at hev
  · rename_i sz hp
    split at hev
    case isFalse => cases hev
    rename_i hn
    simp only [Option.some.injEq] at hev
    subst hev
    rw [hp] at h1
    have e1 := h1.inv_nil
    obtain ⟨G1, hr1, _, _, hV, _, _⟩ := h.newNil (g0 := (0, d, 0)) (isNone_eq hn) (.tip 0 sz) (.inl ⟨sz, rfl⟩)
    refine ⟨G1, a.eval y, w, .inl (by simp [execOp, ho]), hr1, ?_⟩
    rw [e1]
    refine .tip _ 0 [] 0 (.tip 0 sz) (.slice0 _ _) (by simp [AS.mid, AS.setBs, AS.setLs, AS.setL]) (Nat.le_refl _) fun _ m sz' hk => ?_
    cases hk
    exact ⟨by simp, Nat.le_refl _, fun _ => hV.symm⟩
  · simp only [Option.some.injEq] at hev
    subst hev
    exact Val.out h ⟨a.eval y, .inl (by simp [execOp, ho]), h1, rfl, rfl⟩

theorem m_asm (h : Rel F G σ a w) {y : Operand} {x : Opd} (ho : o.op = .assign y) (hx : opdOK y x = true) {r : Res} (hev : evK σ d (.asm x) = some r) : Out P F σ a w o r := by
  have h1 := opd_rel h hx
  simp only [evK] at hev
  split at hev
  case h_2 => cases hev
  rename_i sz hp
  split at hev
  case isFalse => cases hev
  rename_i hn
  simp only [Option.some.injEq] at hev
  subst hev
  rw [hp] at h1
  have e1 := h1.inv_nil
  obtain ⟨G1, hr1, _, _, hV, _, _⟩ := h.newNil (g0 := (0, d, 0)) (isNone_eq hn) (.mo sz []) (.inr ⟨sz, rfl⟩)
  refine ⟨G1, a.eval y, w, .inl (by simp [execOp, ho]), hr1, ?_⟩
  rw [e1]
  exact .mo _ 0 0 (.mo sz []) rfl (by simp [AS.mid, AS.setBs, AS.setLs, AS.setL]) (Nat.le_refl _) fun _ _ _ _ => hV.symm

theorem setLs_tl_other : ∀ (l : List (Tag × Nat × RK)) (σ : AS) (g : Tag), (∀ x ∈ l, x.1 ≠ g) → (σ.setLs l).tl g = σ.tl g
  | [], σ, g, _ => rfl
  | (g', x) :: r, σ, g, h => by
    simp only [AS.setLs]
    rw [setLs_tl_other r _ g (fun y hy => h y (by simp [hy]))]
    have : g' ≠ g := h (g', x) (by simp)
    simp only [AS.setL]
    rw [if_neg (fun e => this e.symm)]
theorem setLs_box : ∀ (l : List (Tag × Nat × RK)) (σ : AS), (σ.setLs l).box = σ.box
  | [], σ => rfl
  | (g', x) :: r, σ => by
    simp only [AS.setLs]
    rw [setLs_box r]
    rfl
theorem setLs_tmp : ∀ (l : List (Tag × Nat × RK)) (σ : AS), (σ.setLs l).tmp = σ.tmp
  | [], σ => rfl
  | (g', x) :: r, σ => by
    simp only [AS.setLs]
    rw [setLs_tmp r]
    rfl
theorem setLs_setB : ∀ (l : List (Tag × Nat × RK)) (σ : AS) (s : Nat) (cs : List IV), (σ.setB s cs).setLs l = (σ.setLs l).setB s cs
  | [], σ, s, cs => rfl
  | (g', x) :: r, σ, s, cs => by
    simp only [AS.setLs]
    rw [show (σ.setB s cs).setL g' x = (σ.setL g' x).setB s cs from rfl, setLs_setB r]

theorem tipCells_tags (d : Nat) : ∀ (xs : List IV) (i : Nat), ∀ y ∈ (tipCells d i xs).2, ∃ j, i ≤ j ∧ y.1 = (1, d, j)
  | [], i, y, h => by simp [tipCells] at h
  | x :: xs, i, y, h => by
    have ih := tipCells_tags d xs (i + 1)
    have h' : y ∈ (tipCells d (i + 1) xs).2 ∨ y.1 = (1, d, i) := by
      unfold tipCells at h
      split at h
      · simp only [List.mem_cons] at h
        rcases h with rfl | h
        · exact .inr rfl
        · exact .inl h
      · exact .inl h
    rcases h' with h1 | h1
    · obtain ⟨j, h2, h3⟩ := ih y h1
      exact ⟨j, by omega, h3⟩
    · exact ⟨i, Nat.le_refl _, h1⟩

/-- The nil slices of a variable's cells begin rows. -/
theorem Rel.tips (d : Nat) : ∀ (xs : List IV) (i : Nat) {G : Gh} {σ : AS}, Rel F G σ a w → σ.freshL (tipCells d i xs).2 = true →
    ∃ G', Rel F G' (σ.setLs (tipCells d i xs).2) a w ∧ (tipCells d i xs).1.length = xs.length ∧
      (∀ v x, IRel G σ.box σ.tl w v x → IRel G' (σ.setLs (tipCells d i xs).2).box (σ.setLs (tipCells d i xs).2).tl w v x) ∧
      ∀ (j : Nat) (x c : IV), xs[j]? = some x → (tipCells d i xs).1[j]? = some c → ∀ v, IRel G σ.box σ.tl w v x → IRel G' (σ.setLs (tipCells d i xs).2).box (σ.setLs (tipCells d i xs).2).tl w v c
  | [], i, G, σ, h, _ => ⟨G, by simpa [tipCells, AS.setLs] using h, rfl, by simp [tipCells, AS.setLs], by simp⟩
  | x :: xs, i, G, σ, h, hf => by
    by_cases hx : ∃ sz, x = .nil sz
    · obtain ⟨sz, rfl⟩ := hx
      have e0 : tipCells d i (.nil sz :: xs) = (.tip (1, d, i) 0 [] :: (tipCells d (i + 1) xs).1, ((1, d, i), 0, .tip 0 sz) :: (tipCells d (i + 1) xs).2) := rfl
      rw [e0] at hf ⊢
      simp only [AS.freshL, List.all_cons, Bool.and_eq_true] at hf
      obtain ⟨G1, hr1, hK1, hρ1, hV1, hV2, hm1⟩ := h.newNil (g0 := (1, d, i)) (isNone_eq hf.1) (.tip 0 sz) (.inl ⟨sz, rfl⟩)
      have hf' : (σ.setL (1, d, i) (0, .tip 0 sz)).freshL (tipCells d (i + 1) xs).2 = true := by
        simp only [AS.freshL, List.all_eq_true] at hf ⊢
        intro y hy
        obtain ⟨j, hj, e⟩ := tipCells_tags d xs (i + 1) y hy
        have := hf.2 y hy
        simp only [AS.setL]
        rw [if_neg (by rw [e]; simp; omega)]
        exact this
      obtain ⟨G2, hr2, hl2, hm2, hc2⟩ := Rel.tips d xs (i + 1) hr1 hf'
      refine ⟨G2, hr2, by simp [hl2], fun v x hv => hm2 v x (hm1 v x hv), fun j x c hj hc v hv => ?_⟩
      cases j with
      | zero =>
        simp at hj hc
        subst hj
        subst hc
        have e1 := hv.inv_nil
        subst e1
        refine hm2 _ _ (.tip _ 0 [] 0 (.tip 0 sz) (.slice0 _ _) (by simp [AS.setL]) (Nat.le_refl _) fun _ m sz' hk => ?_)
        cases hk
        exact ⟨by simp, Nat.le_refl _, fun _ => hV1.symm⟩
      | succ j => exact hc2 j x c (by simpa using hj) (by simpa using hc) v (hm1 v x hv)
    · have e0 : tipCells d i (x :: xs) = (x :: (tipCells d (i + 1) xs).1, (tipCells d (i + 1) xs).2) := by
        cases x <;> first | rfl | exact absurd ⟨_, rfl⟩ hx
      rw [e0] at hf ⊢
      obtain ⟨G2, hr2, hl2, hm2, hc2⟩ := Rel.tips d xs (i + 1) h hf
      refine ⟨G2, hr2, by simp [hl2], hm2, fun j x' c hj hc v hv => ?_⟩
      cases j with
      | zero =>
        simp at hj hc
        subst hj
        subst hc
        exact hm2 _ _ hv
      | succ j => exact hc2 j x' c (by simpa using hj) (by simpa using hc) v hv

/-- A value's cells, one by one. -/
theorem Rep.one {K : Nat → Nat} {v : Value} {x : PV} (h : Rep K w v x) (h1 : (∀ cs, x ≠ .agg cs) ∧ ∀ cs, x ≠ .tup cs) : v.oneCell' = true := by
  cases h <;> first | rfl | exact absurd rfl (h1.1 _) | exact absurd rfl (h1.2 _)
theorem cells_one {v : Value} (h : v.oneCell' = true) : v.cells = #[v] := by
  cases v <;> first | rfl | simp [Value.oneCell'] at h
theorem cells_rel {bx : Nat → Option (List IV)} {tl : Tag → Option (Nat × RK)} {v : Value} {x : IV} {ys : List IV} (h : IRel G bx tl w v x) (hy : x.cells = some ys) :
    v.cells.size = ys.length ∧ ∀ (i : Nat) (c : IV), ys[i]? = some c → ∃ u, v.cells[i]? = some u ∧ u.oneCell' = true ∧ IRel G bx tl w u c := by
  have one : ∀ {x : IV}, IRel G bx tl w v x → v.oneCell' = true → v.cells.size = [x].length ∧ ∀ (i : Nat) (c : IV), [x][i]? = some c → ∃ u, v.cells[i]? = some u ∧ u.oneCell' = true ∧ IRel G bx tl w u c := by
    intro x hx h1
    rw [cells_one h1]
    refine ⟨rfl, fun i c hi => ?_⟩
    cases i with
    | zero =>
      simp at hi
      subst hi
      exact ⟨v, rfl, h1, hx⟩
    | succ i => simp at hi
  unfold IV.cells at hy
  split at hy
  · simp only [Option.some.injEq] at hy
    subst hy
    obtain ⟨vs, f, rfl, hl, hc, h1, hr⟩ := h.inv_agg
    exact ⟨hl, fun i c hi => ⟨f i, hc i c hi, h1 i c hi, hr i c hi⟩⟩
  · simp only [Option.some.injEq] at hy
    subst hy
    obtain ⟨vs, f, rfl, hl, hc, h1, hr⟩ := h.inv_p.inv_agg
    refine ⟨by rw [List.length_map]; exact hl, fun i c hi => ?_⟩
    rw [List.getElem?_map, Option.map_eq_some_iff] at hi
    obtain ⟨c0, h2, rfl⟩ := hi
    exact ⟨f i, hc i c0 h2, h1 i c0 h2, .p (hr i c0 h2)⟩
  · cases hy
  · cases hy
  · cases hy
  · rename_i h2 h3 h4 h5 h6
    simp only [Option.some.injEq] at hy
    subst hy
    refine one h ?_
    cases h with
    | p hp => exact hp.one ⟨fun cs e => h3 cs (by rw [e]), fun cs e => h4 cs (by rw [e])⟩
    | undef => exact absurd rfl h6
    | nil => rfl
    | tip g r xs n k hp => exact hp.one ⟨by simp, by simp⟩
    | mo g r n k h1 => exact h1
    | mp g r off n k h1 => exact h1
    | ptr => rfl
    | agg vs cs => exact absurd rfl (h2 _)
    | tup vs cs => exact absurd rfl (h5 _)
    | clo => rfl

theorem mid_box (σ : AS) (v : IV) (d : Nat) (cs : List IV) (l : List (Tag × Nat × RK)) : σ.mid { v := v, bx := [(d, cs)], tls := l } = (σ.setLs l).setB d cs := by
  simp only [AS.mid, AS.setBs, setLs_setB]

/-- A new variable that holds these cells. -/
theorem Rel.newVar (h : Rel F G σ a w) {d : Nat} (hb : σ.box d = none) {xs : List IV} (hf : σ.freshL (tipCells d 0 xs).2 = true) {vs : Array Value} (e : TypeId) (hl : vs.size = xs.length)
    (hc : ∀ (i : Nat) (c : IV), xs[i]? = some c → ∃ v, vs[i]? = some v ∧ v.oneCell' = true ∧ IRel G σ.box σ.tl w v c) :
    ∃ G', Rel F G' ((σ.setLs (tipCells d 0 xs).2).setB d (tipCells d 0 xs).1) a (w.alloc (.cells vs e)) ∧ G'.ρ d = w.heap.size := by
  obtain ⟨G1, hr1, hl1, hm1, hc1⟩ := Rel.tips d xs 0 h hf
  obtain ⟨G2, hr2, _, _, hρ, _⟩ := hr1.newBox (d := d) (by rw [setLs_box]; exact hb) (vs := vs) (e := e) (cs := (tipCells d 0 xs).1) (by omega) (fun i c hi => by
    have hlt := lt_of_getElem? hi
    obtain ⟨v, h1, h2, h3⟩ := hc i (xs[i]'(by omega)) (by simp)
    exact ⟨v, h1, h2, hc1 i _ c (by simp) hi v h3⟩)
  exact ⟨G2, hr2, hρ⟩

def zerosOK : List Value → List IV → Bool
  | [], [] => true
  | .slice none 0 0 :: vs, .nil _ :: xs => zerosOK vs xs
  | v :: vs, .p x :: xs => constOK v x && zerosOK vs xs
  | v :: vs, .undef :: xs => v.oneCell' && zerosOK vs xs
  | _, _ => false
theorem constOK_one {v : Value} {x : PV} (h : constOK v x = true) : v.oneCell' = true := by
  cases v <;> cases x <;> simp [constOK] at h <;> rfl
theorem zerosOK_rel : ∀ {vs : List Value} {xs : List IV}, zerosOK vs xs = true → vs.length = xs.length ∧
    ∀ (i : Nat) (c : IV), xs[i]? = some c → ∃ v, vs[i]? = some v ∧ v.oneCell' = true ∧ IRel G σ.box σ.tl w v c := by
  intro vs xs h
  fun_induction zerosOK vs xs with
  | case1 => exact ⟨rfl, by simp⟩
  | case2 vs sz xs ih =>
    obtain ⟨h1, h2⟩ := ih h
    refine ⟨by simp [h1], fun i c hi => ?_⟩
    cases i with
    | zero =>
      simp at hi
      subst hi
      exact ⟨_, rfl, rfl, .nil _⟩
    | succ i => exact h2 i c (by simpa using hi)
  | case3 v vs x xs ih =>
    simp only [Bool.and_eq_true] at h
    obtain ⟨h1, h2⟩ := ih h.2
    refine ⟨by simp [h1], fun i c hi => ?_⟩
    cases i with
    | zero =>
      simp at hi
      subst hi
      exact ⟨_, rfl, constOK_one h.1, .p (constOK_rep h.1 _ _)⟩
    | succ i => exact h2 i c (by simpa using hi)
  | case4 v vs xs ih =>
    simp only [Bool.and_eq_true] at h
    obtain ⟨h1, h2⟩ := ih h.2
    refine ⟨by simp [h1], fun i c hi => ?_⟩
    cases i with
    | zero =>
      simp at hi
      subst hi
      exact ⟨_, rfl, h.1, .undef _⟩
    | succ i => exact h2 i c (by simpa using hi)
  | case5 => cases h

def zeroOK (P : Program) (t : TypeId) (zero : List IV) : Bool :=
  match P.info? t with
  | some i => (match i.zero with
    | some z => zerosOK z.cells.toList zero
    | none => false)
  | none => false

theorem m_al (h : Rel F G σ a w) {t : TypeId} {zero : List IV} (ho : o.op = .alloc t) (hz : zeroOK P t zero = true) {r : Res} (hev : evK σ d (.al zero) = some r) : Out P F σ a w o r := by
  simp only [evK] at hev
  split at hev
  case isFalse => cases hev
  rename_i hc
  simp only [Bool.and_eq_true] at hc
  simp only [Option.some.injEq] at hev
  subst hev
  unfold zeroOK at hz
  split at hz
  case h_2 => cases hz
  rename_i i hi
  split at hz
  case h_2 => cases hz
  rename_i z hzz
  obtain ⟨hl, hcc⟩ := zerosOK_rel (G := G) (σ := σ) (w := w) hz
  obtain ⟨G1, hr1, hρ⟩ := h.newVar (isNone_eq hc.1) hc.2 (vs := z.cells) t (by simpa using hl) (fun j c hj => by
    obtain ⟨v, h1, h2⟩ := hcc j c hj
    exact ⟨v, by simpa using h1, h2⟩)
  refine ⟨G1, .pointer (some ⟨w.heap.size, 0, none⟩), w.alloc (.cells z.cells t), .inl ?_, by rw [mid_box]; exact hr1, ?_⟩
  · simp [execOp, ho, Instr.alloc, zeroValue, typeInfo, hi, hzz, newVar, newRow]
  · rw [mid_box, ← hρ]
    exact .ptr d 0 (tipCells d 0 zero).1 (by simp [AS.setB])

theorem m_bx (h : Rel F G σ a w) {t : TypeId} {y : Operand} {x : Opd} {sz : Nat} (ho : o.op = .box t y) (hx : opdOK y x = true) {r : Res} (hev : evK σ d (.bx x sz) = some r) : Out P F σ a w o r := by
  simp only [evK] at hev
  split at hev
  case h_2 => cases hev
  rename_i ys hys
  split at hev
  case isFalse => cases hev
  rename_i hc
  simp only [Bool.and_eq_true, decide_eq_true_eq] at hc
  simp only [Option.some.injEq] at hev
  subst hev
  obtain ⟨hl, hcc⟩ := cells_rel (opd_rel h hx) hys
  obtain ⟨G1, hr1, hρ⟩ := h.newVar (isNone_eq hc.1.2) hc.2 (vs := (a.eval y).cells) t hl hcc
  refine ⟨G1, .pointer (some ⟨w.heap.size, 0, none⟩), w.alloc (.cells (a.eval y).cells t), .inl ?_, by rw [mid_box]; exact hr1, ?_⟩
  · simp [execOp, ho, Instr.box, newVar, newRow]
  · rw [mid_box, ← hρ]
    exact .ptr d 0 (tipCells d 0 ys).1 (by simp [AS.setB])

end

end Go.Proofs.Ytfhgjhchjekbgaa
set_option linter.unusedVariables false
set_option linter.unusedSimpArgs false
namespace Go.Proofs.Ytfhgjhchjekbgaa
open Go

theorem splice_get {α : Type} (l m : List α) (o i : Nat) (h : o + m.length ≤ l.length) :
    (l.take o ++ m ++ l.drop (o + m.length))[i]? = if i < o then l[i]? else if i < o + m.length then m[i - o]? else l[i]? := by
  have ho : (l.take o).length = o := by simp; omega
  by_cases h1 : i < o
  · rw [if_pos h1, List.append_assoc, List.getElem?_append_left (by omega), List.getElem?_take, if_pos h1]
  · rw [if_neg h1]
    by_cases h2 : i < o + m.length
    · rw [if_pos h2, List.append_assoc, List.getElem?_append_right (by omega), ho, List.getElem?_append_left (by omega)]
    · rw [if_neg h2, List.append_assoc, List.getElem?_append_right (by omega), ho, List.getElem?_append_right (by omega), List.getElem?_drop]
      congr 1
      omega
theorem splice_length {α : Type} (l m : List α) (o : Nat) (h : o + m.length ≤ l.length) : (l.take o ++ m ++ l.drop (o + m.length)).length = l.length := by
  simp
  omega

section
variable {F : Fr} {G G' : Gh} {σ σh : AS} {a : Act} {w w' : World} {P : Program} {o : Oper} {d : Nat}

theorem run_storeVar_ok {t : TypeId} {n : Nat} (hs : szOK P t n = true) {b off : Nat} {v : Value} (hv : v.cells.size = n) {cur : Array Value} {e : TypeId} (hg : w.heap[b]? = some (.cells cur e (0, 0))) (hl : off + n ≤ cur.size)
    (h1 : ∀ u ∈ v.cells.toList, u.oneCell' = true) :
    (storeVar t ⟨b, off, none⟩ v).run P w = .ok () (w.setRow b (cur.toList.take off ++ v.cells.toList ++ cur.toList.drop (off + v.cells.toList.length)).toArray) := by
  have h2 := run_storeCells_at P b off e v.cells.toList 0 cur w hg (by simp [hv]; exact hl) h1
  simp only [Nat.add_zero] at h2
  simp [storeVar, run_sizeOf_ok hs, hv, h2]

theorem mkMu {K : Nat → Nat} {b cap sz : Nat} {cur : Array Value} {e : TypeId} {es : List (List PV)} (hg : w.heap[b]? = some (.cells cur e (0, 0))) (hn : es.length ≤ cap) (hm : cap ≤ maxLen) (hz : cur.size = cap * sz) (h0 : 0 < sz) (hK : K b = 0)
    (hs : ∀ (i : Nat) (x : List PV), es[i]? = some x → x.length = sz)
    (hc : ∀ (i : Nat) (x : List PV) (j : Nat) (c : PV), es[i]? = some x → x[j]? = some c → ∃ v, cur[i * sz + j]? = some v ∧ v.oneCell' = true ∧ Rep K w v c) :
    RepL K w (.slice (some ⟨b, 0, none⟩) es.length cap) (.mu sz es) [b] := by
  refine .mu b es.length cap sz cur e es (fun i j => (cur[i * sz + j]?).getD undef) hg hn hm hz h0 hK rfl hs (fun i x j c hx hj => ?_) (fun i x j c hx hj => ?_) (fun i x j c hx hj => ?_)
  all_goals obtain ⟨v, h1, h2, h3⟩ := hc i x j c hx hj
  · simp [h1]
  · simp only [h1, Option.getD_some]; exact h2
  · simp only [h1, Option.getD_some]; exact h3
theorem mkSlice {K : Nat → Nat} {b cap sz : Nat} {cur : Array Value} {e : TypeId} {fr : Nat × Nat} {es : List (List PV)} (hg : w.heap[b]? = some (.cells cur e fr)) (hn : es.length ≤ cap) (hK : es.length * sz ≤ K b)
    (hs : ∀ x ∈ es, x.length = sz)
    (hc : ∀ (i : Nat) (x : List PV) (j : Nat) (c : PV), es[i]? = some x → x[j]? = some c → ∃ v, cur[i * sz + j]? = some v ∧ v.oneCell' = true ∧ Rep K w v c) :
    Rep K w (.slice (some ⟨b, 0, none⟩) es.length cap) (.slice es) := by
  rcases Nat.eq_zero_or_pos es.length with h0 | h0
  · have : es = [] := List.eq_nil_of_length_eq_zero h0
    subst this
    exact .slice0 _ _
  · refine .slice b 0 es.length cap sz es (fun i j => (cur[i * sz + j]?).getD undef) h0 rfl hn (by omega) (fun i x hx => hs x (List.mem_of_getElem? hx)) (fun i x j c hx hj => ?_) (fun i x j c hx hj => ?_) (fun i x j c hx hj => ?_)
    all_goals obtain ⟨v, h1, h2, h3⟩ := hc i x j c hx hj
    · rw [Nat.zero_add, cell_heap hg]
      simp [h1]
    · simp only [h1, Option.getD_some]; exact h2
    · simp only [h1, Option.getD_some]; exact h3

theorem fz0_rel {bx : Nat → Option (List IV)} {tl : Tag → Option (Nat × RK)} {v : Value} {x : IV} {y : PV} (h : IRel G bx tl w v x) (hy : x.fz0 = some y) : Rep G.K w v y := by
  unfold IV.fz0 at hy
  split at hy
  · simp only [Option.some.injEq] at hy
    subst hy
    exact h.inv_p
  · simp only [Option.some.injEq] at hy
    subst hy
    obtain ⟨_, _, h1, _⟩ := h.inv_tip
    exact h1
  · simp only [Option.some.injEq] at hy
    subst hy
    rw [h.inv_nil]
    exact .slice0 _ _
  · cases hy
theorem fzL_get : ∀ {xs : List IV} {ys : List PV}, fzL xs = some ys → xs.length = ys.length ∧ ∀ (i : Nat) (x : IV) (y : PV), xs[i]? = some x → ys[i]? = some y → x.fz0 = some y
  | [], ys, h => by
    simp [fzL] at h
    subst h
    exact ⟨rfl, by simp⟩
  | x :: xs, ys, h => by
    simp only [fzL] at h
    split at h
    · rename_i v vs hv hvs
      simp only [Option.some.injEq] at h
      subst h
      obtain ⟨h1, h2⟩ := fzL_get hvs
      refine ⟨by simp [h1], fun i x' y hx hy => ?_⟩
      cases i with
      | zero =>
        simp at hx hy
        subst hx
        subst hy
        exact hv
      | succ i => exact h2 i x' y (by simpa using hx) (by simpa using hy)
    · cases h
/-- Cells that are plain data. -/
theorem cells_fz {bx : Nat → Option (List IV)} {tl : Tag → Option (Nat × RK)} {v : Value} {x : IV} {ys : List IV} {e : List PV} (h : IRel G bx tl w v x) (hy : x.cells = some ys) (he : fzL ys = some e) :
    v.cells.size = e.length ∧ ∀ (i : Nat) (c : PV), e[i]? = some c → ∃ u, v.cells[i]? = some u ∧ u.oneCell' = true ∧ Rep G.K w u c := by
  obtain ⟨h1, h2⟩ := cells_rel h hy
  obtain ⟨h3, h4⟩ := fzL_get he
  refine ⟨by omega, fun i c hi => ?_⟩
  have hlt := lt_of_getElem? hi
  have hx : ys[i]? = some (ys[i]'(by omega)) := by simp
  obtain ⟨u, h5, h6, h7⟩ := h2 i _ hx
  exact ⟨u, h5, h6, fz0_rel h7 (h4 i _ c hx hi)⟩

theorem one_of_cells {v : Value} {n : Nat} {R : Value → Prop} (hs : v.cells.size = n) (h : ∀ i, i < n → ∃ u, v.cells[i]? = some u ∧ u.oneCell' = true) : ∀ u ∈ v.cells.toList, u.oneCell' = true := by
  intro u hu
  rw [List.mem_iff_getElem?] at hu
  obtain ⟨i, hi⟩ := hu
  have hlt := lt_of_getElem? hi
  obtain ⟨u', h1, h2⟩ := h i (by simpa [hs] using hlt)
  rw [Array.getElem?_toList] at hi
  rw [hi] at h1
  simp at h1
  subst h1
  exact h2

theorem m_st (h : Rel F G σ a w) (hle : σh.le σ) {t : TypeId} {y z : Operand} {x' y' : Opd} {sz s' : Nat} (ho : o.op = .store t y z) (hy : opdOK y x' = true) (hz : opdOK z y' = true) (hs : szOK P t sz = true) {r : Res}
    (hev : evK σh d (.st x' y' sz s') = some r) : Out P F σ a w o r := by
  simp only [evK, hle.val] at hev
  have h1 := opd_rel h hy
  have h2 := opd_rel h hz
  split at hev
  · rename_i s n ys hp hys
    split at hev
    case isFalse => cases hev
    rename_i hcd
    obtain ⟨rfl, hlen⟩ := hcd
    split at hev
    case h_2 => cases hev
    rename_i cs hcs
    rw [Option.map_eq_some_iff] at hev
    obtain ⟨cs', hcs', rfl⟩ := hev
    unfold putCells at hcs'
    split at hcs'
    case isFalse => cases hcs'
    rename_i hfit
    simp only [Option.some.injEq] at hcs'
    subst hcs'
    have hcs1 := hle.box _ _ hcs
    rw [hp] at h1
    obtain ⟨e1, _⟩ := h1.inv_ptr
    obtain ⟨vs, e, hg, hl, hc⟩ := h.boxes s cs hcs1
    obtain ⟨h3, h4⟩ := cells_rel h2 hys
    have hone : ∀ u ∈ (a.eval z).cells.toList, u.oneCell' = true := one_of_cells (R := fun _ => True) h3 (fun i hi => by
      obtain ⟨u, h5, h6, _⟩ := h4 i (ys[i]) (by simp)
      exact ⟨u, h5, h6⟩)
    have hrun := run_storeVar_ok (P := P) hs (b := G.ρ s) (off := n) (v := a.eval z) (by omega) hg (by omega) hone
    have hvl : (a.eval z).cells.toList.length = ys.length := by simpa using h3
    obtain ⟨hr1, _⟩ := h.boxPut hcs1 hg (cs := cs.take n ++ ys ++ cs.drop (n + ys.length)) (cur' := (vs.toList.take n ++ (a.eval z).cells.toList ++ vs.toList.drop (n + (a.eval z).cells.toList.length)).toArray) (by
      rw [splice_length _ _ _ hfit, List.size_toArray, splice_length _ _ _ (by simp [hvl]; omega)]
      simpa using hl) (fun i c hi => by
      rw [splice_get _ _ _ _ hfit] at hi
      rw [List.getElem?_toArray, splice_get _ _ _ _ (by simp [hvl]; omega), hvl]
      by_cases h5 : i < n
      · rw [if_pos h5] at hi ⊢
        obtain ⟨u, h6, h7⟩ := hc i c hi
        exact ⟨u, by simpa using h6, h7⟩
      · rw [if_neg h5] at hi ⊢
        by_cases h6 : i < n + ys.length
        · rw [if_pos h6] at hi ⊢
          obtain ⟨u, h7, h8⟩ := h4 _ c hi
          exact ⟨u, by simpa using h7, h8⟩
        · rw [if_neg h6] at hi ⊢
          obtain ⟨u, h7, h8⟩ := hc i c hi
          exact ⟨u, by simpa using h7, h8⟩)
    exact ⟨G, undef, _, .inr ⟨by simp only [execOp, ho, e1, Instr.storeAt, Instr.sureAddr]; simp [hrun], rfl⟩, hr1, .undef _⟩
  · cases hev

theorem m_stm (h : Rel F G σ a w) (hle : σh.le σ) {t : TypeId} {y z : Operand} {x' y' : Opd} {sz : Nat} (ho : o.op = .store t y z) (hy : opdOK y x' = true) (hz : opdOK z y' = true) (hs : szOK P t sz = true) {r : Res}
    (hev : evK σh d (.stm x' y' sz) = some r) : Out P F σ a w o r := by
  simp only [evK, hle.val] at hev
  have h1 := opd_rel h hy
  have h2 := opd_rel h hz
  split at hev
  · rename_i g q n ys hp hys
    split at hev
    case h_2 => cases hev
    rename_i q' sz' es vs htl hvs
    split at hev
    case isFalse => cases hev
    rename_i hcd
    obtain ⟨rfl, h0, hin, hvl⟩ := hcd
    split at hev
    case h_2 => cases hev
    rename_i ee hee
    simp only [Option.some.injEq] at hev
    subst hev
    have htl' := hle.tl _ _ htl
    rw [hp] at h1
    obtain ⟨c, hc, e1⟩ := h1.inv_mp htl'
    obtain ⟨bl, hrow⟩ := h.rows g _ _ htl'
    rcases hrow.inv_mu with ⟨e3, rfl, _⟩ | ⟨b, cap, cur, e, f, e3, _, hg, hn2, hm, hz2, hp0, hK, hes, hce, h1e, hre⟩
    · simp at hee
    · rw [e3] at hc
      simp [Value.ownBlock] at hc
      subst hc
      have hel := hes _ _ hee
      obtain ⟨h3, h4⟩ := cells_fz h2 hys hvs
      have hone : ∀ u ∈ (a.eval z).cells.toList, u.oneCell' = true := one_of_cells (R := fun _ => True) h3 (fun i hi => by
        obtain ⟨u, h5, h6, _⟩ := h4 i (vs[i]) (by simp)
        exact ⟨u, h5, h6⟩)
      have hei := lt_of_getElem? hee
      have hdm := Nat.div_add_mod n sz'
      have hmul : (n / sz' + 1) * sz' ≤ es.length * sz' := Nat.mul_le_mul_right _ hei
      have hmul2 : es.length * sz' ≤ cap * sz' := Nat.mul_le_mul_right _ hn2
      rw [Nat.add_mul, Nat.mul_comm (n / sz')] at hmul
      have hfit : n + sz ≤ cur.size := by omega
      have hvl2 : (a.eval z).cells.toList.length = sz := by simp; omega
      have hrun := run_storeVar_ok (P := P) hs (b := b) (off := n) (v := a.eval z) (by omega) hg hfit hone
      have hcell : ∀ (i : Nat) (x : List PV) (j : Nat) (c : PV), (es.set (n / sz') (ee.take (n % sz') ++ vs ++ ee.drop (n % sz' + sz)))[i]? = some x → x[j]? = some c →
          ∃ v, (cur.toList.take n ++ (a.eval z).cells.toList ++ cur.toList.drop (n + (a.eval z).cells.toList.length)).toArray[i * sz' + j]? = some v ∧ v.oneCell' = true ∧ Rep G.K w v c := by
        intro i x j c hx hj
        rw [List.getElem?_toArray, splice_get _ _ _ _ (by simp at hvl2 ⊢; omega), hvl2]
        rw [List.getElem?_set] at hx
        by_cases hi : n / sz' = i
        · rw [if_pos hi, if_pos hei] at hx
          simp only [Option.some.injEq] at hx
          subst hx
          rw [← hvl, splice_get _ _ _ _ (by omega), hvl] at hj
          subst hi
          have hcm : n / sz' * sz' + n % sz' = n := by rw [Nat.mul_comm]; exact hdm
          by_cases h5 : j < n % sz'
          · rw [if_pos h5] at hj
            rw [if_pos (by omega)]
            exact ⟨f _ _, by simpa using hce _ _ _ _ hee hj, h1e _ _ _ _ hee hj, hre _ _ _ _ hee hj⟩
          · rw [if_neg h5] at hj
            rw [if_neg (by omega)]
            by_cases h6 : j < n % sz' + sz
            · rw [if_pos h6] at hj
              rw [if_pos (by omega), show n / sz' * sz' + j - n = j - n % sz' by omega]
              obtain ⟨u, h7, h8⟩ := h4 _ c hj
              exact ⟨u, by simpa using h7, h8⟩
            · rw [if_neg h6] at hj
              rw [if_neg (by omega)]
              exact ⟨f _ _, by simpa using hce _ _ _ _ hee hj, h1e _ _ _ _ hee hj, hre _ _ _ _ hee hj⟩
        · rw [if_neg hi] at hx
          have hjl := lt_of_getElem? hj
          rw [hes _ _ hx] at hjl
          have hout : i * sz' + j < n ∨ n + sz ≤ i * sz' + j := by
            have hcm : n / sz' * sz' + n % sz' = n := by rw [Nat.mul_comm]; exact hdm
            rcases Nat.lt_or_gt_of_ne hi with h5 | h5
            · right
              have : (n / sz' + 1) * sz' ≤ i * sz' := Nat.mul_le_mul_right _ h5
              rw [Nat.add_mul] at this
              omega
            · left
              have : (i + 1) * sz' ≤ n / sz' * sz' := Nat.mul_le_mul_right _ h5
              rw [Nat.add_mul] at this
              omega
          have hold : ∃ v, cur.toList[i * sz' + j]? = some v ∧ v.oneCell' = true ∧ Rep G.K w v c := ⟨f i j, by simpa using hce _ _ _ _ hx hj, h1e _ _ _ _ hx hj, hre _ _ _ _ hx hj⟩
          rcases hout with h5 | h5
          · rw [if_pos h5]
            exact hold
          · rw [if_neg (by omega), if_neg (by omega)]
            exact hold
      have hsl : ∀ (i : Nat) (x : List PV), (es.set (n / sz') (ee.take (n % sz') ++ vs ++ ee.drop (n % sz' + sz)))[i]? = some x → x.length = sz' := by
        intro i x hx
        rw [List.getElem?_set] at hx
        by_cases hi : n / sz' = i
        · rw [if_pos hi, if_pos hei] at hx
          simp only [Option.some.injEq] at hx
          subst hx
          rw [← hvl, splice_length _ _ _ (by omega)]
          exact hel
        · rw [if_neg hi] at hx
          exact hes _ _ hx
      obtain ⟨G1, hr1, _⟩ := h.rowPut (g0 := g) (r := q) (k := .mo sz' (es.set (n / sz') (ee.take (n % sz') ++ vs ++ ee.drop (n % sz' + sz)))) (V' := G.V g) (K' := G.K)
        (cur' := (cur.toList.take n ++ (a.eval z).cells.toList ++ cur.toList.drop (n + (a.eval z).cells.toList.length)).toArray) hg htl' (by simp) (by rw [e3]; rfl) (by rw [e3]; rfl) (by simp) (fun _ _ => rfl) (Nat.le_refl _) (by omega) (fun i hi => by omega) ⟨Nat.le_refl _, fun _ => ⟨⟨_, _, rfl⟩, rfl⟩⟩ (fun hext => by
        rw [e3]
        have hlen2 : (es.set (n / sz') (ee.take (n % sz') ++ vs ++ ee.drop (n % sz' + sz))).length = es.length := by simp
        have := mkMu (w := w.setRow b (cur.toList.take n ++ (a.eval z).cells.toList ++ cur.toList.drop (n + (a.eval z).cells.toList.length)).toArray) (K := G.K) (b := b) (cap := cap) (sz := sz') (es := es.set (n / sz') (ee.take (n % sz') ++ vs ++ ee.drop (n % sz' + sz)))
          (setRow_heap w b cur _ e _ hg) (by rw [hlen2]; exact hn2) hm (by
            rw [List.size_toArray, splice_length _ _ _ (by simp at hvl2 ⊢; omega)]
            simpa using hz2) h0 hK hsl (fun i x j c hx hj => by
            obtain ⟨v, h5, h6, h7⟩ := hcell i x j c hx hj
            exact ⟨v, h5, h6, h7.ext hext⟩)
        rw [hlen2] at this
        exact ⟨[b], this⟩)
      exact ⟨G1, undef, _, .inr ⟨by simp only [execOp, ho, e1, Instr.storeAt, Instr.sureAddr]; simp [hrun], rfl⟩, hr1, .undef _⟩
  · cases hev

end

end Go.Proofs.Ytfhgjhchjekbgaa
set_option linter.unusedVariables false
set_option linter.unusedSimpArgs false
namespace Go.Proofs.Ytfhgjhchjekbgaa
open Go

def numbered {α : Type} : Nat → List α → List (Nat × α)
  | _, [] => []
  | k, x :: xs => (k, x) :: numbered (k + 1) xs
def partsOK : Nat → List (Nat × Operand) → List Opd → Bool
  | _, [], [] => true
  | k, (i, y) :: ps, x :: xs => decide (i = k) && opdOK y x && partsOK (k + 1) ps xs
  | _, _, _ => false

/-- Cells written one after the other. -/
theorem foldl_set (vs : List Value) : ∀ (k off : Nat) (cells : Array Value), off + k + vs.length ≤ cells.size →
    ((vs.zipIdx k).foldl (fun cs (c, j) => cs.setIfInBounds (off + j) c) cells).toList = cells.toList.take (off + k) ++ vs ++ cells.toList.drop (off + k + vs.length) := by
  induction vs with
  | nil => intro k off cells h; simp
  | cons v vs ih =>
    intro k off cells h
    simp only [List.zipIdx_cons, List.foldl_cons]
    rw [ih (k + 1) off _ (by simp at h ⊢; omega)]
    have e := list_seg_step cells.toList (off + k) v vs (by simp at h ⊢; omega)
    simp only [Array.toList_setIfInBounds]
    simpa [Nat.add_assoc] using e
theorem foldl_set_arr (vs : Array Value) (off : Nat) (cells : Array Value) (h : off + vs.size ≤ cells.size) :
    (vs.zipIdx.foldl (fun cs (c, j) => cs.setIfInBounds (off + j) c) cells).toList = cells.toList.take off ++ vs.toList ++ cells.toList.drop (off + vs.size) := by
  have h2 := foldl_set vs.toList 0 off cells (by simpa using h)
  rw [← Array.foldl_toList, Array.toList_zipIdx]
  simpa using h2

theorem fill_cons {place : Nat → Option (Nat × Nat)} {cells : Array Value} {i off n : Nat} {v : Value} {rest : List (Nat × Value)} (hp : place i = some (off, n)) (hv : v.cells.size = n) (hl : off + n ≤ cells.size) :
    ∃ cells', Instr.fill place cells ((i, v) :: rest) = Instr.fill place cells' rest ∧ cells'.toList = cells.toList.take off ++ v.cells.toList ++ cells.toList.drop (off + n) ∧ cells'.size = cells.size := by
  refine ⟨v.cells.zipIdx.foldl (fun cs (c, j) => cs.setIfInBounds (off + j) c) cells, ?_, ?_, ?_⟩
  · simp only [Instr.fill, hp]
    rw [if_neg]
    simp [hv]
    omega
  · rw [foldl_set_arr _ _ _ (by omega), hv]
  · have h2 := foldl_set_arr v.cells off cells (by omega)
    have h3 := congrArg List.length h2
    rw [← Array.length_toList, h3]
    simp
    omega

section
variable {F : Fr} {G G' : Gh} {σ σh : AS} {a : Act} {w w' : World} {P : Program} {o : Oper} {d : Nat}

/-- A slice that is written out: element after element. -/
theorem fill_seq (sz : Nat) : ∀ (vals : List Value) (k : Nat) (cells : Array Value), (∀ v ∈ vals, v.cells.size = sz) → (k + vals.length) * sz ≤ cells.size →
    ∃ cells', Instr.fill (fun i => some (i * sz, sz)) cells (numbered k vals) = some cells' ∧ cells'.size = cells.size ∧
      cells'.toList = cells.toList.take (k * sz) ++ vals.flatMap (fun v => v.cells.toList) ++ cells.toList.drop ((k + vals.length) * sz)
  | [], k, cells, _, _ => ⟨cells, rfl, rfl, by simp⟩
  | v :: vals, k, cells, hs, hl => by
    have hv := hs v (by simp)
    have e1 : (k + (v :: vals).length) * sz = k * sz + sz + vals.length * sz := by simp [Nat.add_mul]; omega
    obtain ⟨c1, h1, h2, h3⟩ := fill_cons (place := fun i => some (i * sz, sz)) (cells := cells) (i := k) (rest := numbered (k + 1) vals) rfl hv (by omega)
    obtain ⟨c2, h4, h5, h6⟩ := fill_seq sz vals (k + 1) c1 (fun u hu => hs u (by simp [hu])) (by rw [h3, Nat.add_mul, Nat.add_mul]; omega)
    refine ⟨c2, by simp only [numbered]; rw [h1, h4], by omega, ?_⟩
    rw [h6, h2]
    have hvl : v.cells.toList.length = sz := by simpa using hv
    have e2 : (k + 1) * sz = k * sz + sz := by rw [Nat.add_mul]; omega
    have e3 : (k + 1 + vals.length) * sz = k * sz + sz + vals.length * sz := by simp [Nat.add_mul]
    have hcl : k * sz + sz ≤ cells.toList.length := by simp; omega
    have hA : (cells.toList.take (k * sz) ++ v.cells.toList).length = k * sz + sz := by simp [hvl]; omega
    rw [e1, e2, e3, List.take_append_of_le_length (by rw [hA]; exact Nat.le_refl _), List.take_of_length_le (by rw [hA]; exact Nat.le_refl _), List.drop_append, List.drop_eq_nil_of_le (by rw [hA]; omega), hA, List.drop_drop]
    simp only [List.flatMap_cons, List.nil_append, List.append_assoc]
    congr 3
    congr 1
    omega

theorem partsOK_numbered {β : Type} (g : Operand → β) : ∀ {k : Nat} {ps : List (Nat × Operand)} {xs : List Opd}, partsOK k ps xs = true → ∃ ys, ps = numbered k ys ∧ opdsOK ys xs = true ∧ ps.map (fun x => (x.1, g x.2)) = numbered k (ys.map g)
  | k, [], [], _ => ⟨[], rfl, rfl, rfl⟩
  | k, [], x :: xs, h => by simp [partsOK] at h
  | k, p :: ps, [], h => by simp [partsOK] at h
  | k, (i, y) :: ps, x :: xs, h => by
    simp only [partsOK, Bool.and_eq_true, decide_eq_true_eq] at h
    obtain ⟨⟨rfl, h2⟩, h3⟩ := h
    obtain ⟨ys, rfl, h5, h6⟩ := partsOK_numbered g h3
    exact ⟨y :: ys, rfl, by simp [opdsOK, h2, h5], by simp [numbered, h6]⟩

theorem elemsOf_flat (h : Rel F G σ a w) (hle : σh.le σ) {sz : Nat} : ∀ {ys : List Operand} {xs : List Opd} {es : List (List PV)}, opdsOK ys xs = true → elemsOf σh sz xs = some es →
    Flat G.K w ((ys.map a.eval).flatMap fun v => v.cells.toList) es sz ∧ (∀ v ∈ ys.map a.eval, v.cells.size = sz) ∧ ys.length = es.length
  | [], [], es, _, he => by
    simp [elemsOf] at he
    subst he
    exact ⟨Flat.nil _ _ _, by simp, rfl⟩
  | [], x :: xs, es, ho, _ => by simp [opdsOK] at ho
  | y :: ys, [], es, ho, _ => by simp [opdsOK] at ho
  | y :: ys, x :: xs, es, ho, he => by
    simp only [opdsOK, Bool.and_eq_true] at ho
    simp only [elemsOf, hle.val] at he
    split at he
    case h_2 => cases he
    rename_i cs hcs
    split at he
    case h_2 => cases he
    rename_i e es' he1 he2
    split at he
    case isFalse => cases he
    rename_i hlen
    simp only [Option.some.injEq] at he
    subst he
    obtain ⟨h1, h2, h3⟩ := elemsOf_flat h hle ho.2 he2
    obtain ⟨h4, h5⟩ := cells_fz (opd_rel h ho.1) hcs he1
    refine ⟨?_, fun v hv => ?_, by simp [h3]⟩
    · have hone : Flat G.K w (a.eval y).cells.toList [e] sz := by
        refine ⟨by simp; omega, by simp [hlen], fun i x j c hi hj => ?_⟩
        cases i with
        | zero =>
          simp at hi
          subst hi
          obtain ⟨u, h6, h7⟩ := h5 j c hj
          exact ⟨u, by simpa using h6, h7⟩
        | succ i => simp at hi
      simpa using hone.append h1
    · simp only [List.map_cons, List.mem_cons] at hv
      rcases hv with rfl | hv
      · omega
      · exact h2 v hv

def buildSliceOK (P : Program) (t : TypeId) (n : Nat) (parts : Array (Nat × Operand)) (sz : Nat) (xs : List Opd) : Bool :=
  partsOK 0 parts.toList xs && decide (n = xs.length) && decide (0 < sz) && decide (n * sz ≤ 16777216) && (match P.underlying t with
    | some (.slice e) => (match P.info? e with
      | some i => decide (i.size = sz) && i.zero.isSome
      | none => false)
    | _ => false)

theorem run_buildSlice (h : Rel F G σ a w) (hle : σh.le σ) {t : TypeId} {n : Nat} {parts : Array (Nat × Operand)} {sz : Nat} {xs : List Opd} {es : List (List PV)} (ho : o.op = .buildSlice t n parts) (hk : buildSliceOK P t n parts sz xs = true) (he : elemsOf σh sz xs = some es) :
    ∃ cur e, (execOp a.eval o).run P w = .ok (.value (.slice (some ⟨w.heap.size, 0, none⟩) es.length es.length)) (w.alloc (.cells cur e)) ∧ Flat G.K w cur.toList es sz ∧ cur.size = es.length * sz ∧ 0 < sz ∧ es.length ≤ maxLen := by
  unfold buildSliceOK at hk
  simp only [Bool.and_eq_true, decide_eq_true_eq] at hk
  obtain ⟨⟨⟨⟨h1, h2⟩, h3⟩, h4⟩, h5⟩ := hk
  split at h5
  case h_2 => cases h5
  rename_i e hu
  split at h5
  case h_2 => cases h5
  rename_i i hi
  simp only [Bool.and_eq_true, decide_eq_true_eq] at h5
  obtain ⟨h5, h6⟩ := h5
  rw [Option.isSome_iff_exists] at h6
  obtain ⟨z, hz⟩ := h6
  obtain ⟨ys, hps, hys, hmap⟩ := partsOK_numbered (fun x => a.eval x) h1
  obtain ⟨hfl, hsz, hlen⟩ := elemsOf_flat h hle hys he
  obtain ⟨hxl, _⟩ := opds_rel h hys
  have hn : n = es.length := by omega
  let zc : Array Value := if n * sz = 0 then #[] else z.cells
  obtain ⟨c, hc1, hc2, hc3⟩ := fill_seq sz (ys.map a.eval) 0 ((Array.range (n * sz)).map (zc[· % zc.size]!)) hsz (by simp; rw [hlen, hn]; exact Nat.le_refl _)
  have hcur : c.toList = (ys.map a.eval).flatMap fun v => v.cells.toList := by
    rw [hc3]
    simp only [Nat.zero_mul, List.take_zero, List.nil_append, Nat.zero_add, List.length_map]
    rw [List.drop_eq_nil_of_le (by simp; rw [hlen, hn]; exact Nat.le_refl _), List.append_nil]
  refine ⟨c, e, ?_, by rw [hcur]; exact hfl, by rw [hc2]; simp [hn], h3, ?_⟩
  · have hpar : ((parts.map fun x => (x.1, a.eval x.2)).toList) = numbered 0 (ys.map a.eval) := by
      rw [Array.toList_map, hmap]
    have hle24 : ¬ (16777216 < n * sz) := by omega
    have hc1' : Instr.fill (fun i => some (i * sz, sz)) ((Array.range (n * sz)).map (zc[· % zc.size]!)) ((parts.map fun x => (x.1, a.eval x.2)).toList) = some c := by rw [hpar]; exact hc1
    subst h5
    rw [← hn]
    by_cases h0 : n * i.size = 0
    · have hn0 : n = 0 := by
        rcases Nat.mul_eq_zero.1 h0 with h7 | h7
        · exact h7
        · omega
      have hes : es = [] := List.eq_nil_of_length_eq_zero (by omega)
      have hys0 : ys = [] := List.eq_nil_of_length_eq_zero (by omega)
      have hp0 : parts = #[] := by
        apply Array.toList_inj.1
        rw [hps, hys0]
        rfl
      have hc0 : c = #[] := by
        apply Array.toList_inj.1
        rw [hcur, hys0]
        rfl
      subst hn0
      subst hp0
      subst hc0
      have hels : es.length = 0 := by omega
      simp [execOp, ho, Instr.buildSlice, run_underlying hu, sizeOf, typeInfo, hi, Instr.fill, newRow, hels]
      congr 2
      apply Array.eq_empty_of_size_eq_zero
      simp
    · have hzc : zc = z.cells := by simp only [zc, if_neg h0]
      rw [hzc] at hc1'
      have hz1 : (zeroValue e).run P w = .ok z w := by simp [zeroValue, typeInfo, hi, hz]
      have hs1 : (sizeOf e).run P w = .ok i.size w := by simp [sizeOf, typeInfo, hi]
      simp only [execOp, ho, Instr.buildSlice, Sem.run_bind, run_underlying hu, Result.andThen_ok, hs1]
      rw [if_neg (by omega), if_neg h0]
      simp only [Sem.run_bind, hz1, Result.andThen_ok, Sem.run_pure, hc1']
      simp [newRow]
  · rw [hn] at h4
    have : es.length * 1 ≤ es.length * sz := Nat.mul_le_mul_left _ h3
    unfold maxLen
    omega

end

end Go.Proofs.Ytfhgjhchjekbgaa
set_option linter.unusedVariables false
set_option linter.unusedSimpArgs false
namespace Go.Proofs.Ytfhgjhchjekbgaa
open Go

section
variable {F : Fr} {G G' : Gh} {σ σh : AS} {a : Act} {w w' : World} {P : Program} {o : Oper} {d : Nat}

/-- Cells that read as elements lie at the beginning of a row. -/
def Heads (K : Nat → Nat) (w : World) (cur : Array Value) (es : List (List PV)) (sz : Nat) : Prop :=
  ∀ (i : Nat) (x : List PV) (j : Nat) (c : PV), es[i]? = some x → x[j]? = some c → ∃ v, cur[i * sz + j]? = some v ∧ v.oneCell' = true ∧ Rep K w v c

theorem Flat.heads {K : Nat → Nat} {vs : List Value} {es : List (List PV)} {sz : Nat} (h : Flat K w vs es sz) {cur : Array Value} (hc : ∀ (i : Nat) (v : Value), vs[i]? = some v → cur[i]? = some v) : Heads K w cur es sz := by
  intro i x j c hx hj
  obtain ⟨v, h1, h2, h3⟩ := h.cell i x j c hx hj
  exact ⟨v, hc _ _ h1, h2, h3⟩
theorem Heads.ext {K K' : Nat → Nat} {cur : Array Value} {es : List (List PV)} {sz : Nat} (h : Heads K w cur es sz) (he : Ext K K' w w') : Heads K' w' cur es sz := by
  intro i x j c hx hj
  obtain ⟨v, h1, h2, h3⟩ := h i x j c hx hj
  exact ⟨v, h1, h2, h3.ext he⟩

theorem Rel.rowNewTip (h : Rel F G σ a w) {g0 : Tag} {r cap sz : Nat} {es : List (List PV)} {cur : Array Value} (e : TypeId) (hh : Heads G.K w cur es sz) (hs : ∀ x ∈ es, x.length = sz) (hcap : es.length ≤ cap) (hmax : cap ≤ maxLen) (hsz : cur.size = cap * sz) (h0 : 0 < sz)
    (hold : ∀ n0 k0, σ.tl g0 = some (n0, k0) → n0 ≤ r ∧ (n0 = r → ∃ m, k0 = .tip m sz ∧ m < es.length)) :
    ∃ G', Rel F G' (σ.setL g0 (r, .tip es.length sz)) a (w.alloc (.cells cur e)) ∧ IRel G' (σ.setL g0 (r, .tip es.length sz)).box (σ.setL g0 (r, .tip es.length sz)).tl (w.alloc (.cells cur e)) (.slice (some ⟨w.heap.size, 0, none⟩) es.length cap) (.tip g0 r es) := by
  have hle : es.length * sz ≤ cap * sz := Nat.mul_le_mul_right _ hcap
  have hKn : (fun b => if b = w.heap.size then es.length * sz else G.K b) w.heap.size = es.length * sz := by simp
  obtain ⟨G1, h1, hK, hρ, hV, hm⟩ := h.rowAlloc (g0 := g0) (r := r) (k := .tip es.length sz) (V' := .slice (some ⟨w.heap.size, 0, none⟩) es.length cap) (cur := cur) (e := e) (K' := fun b => if b = w.heap.size then es.length * sz else G.K b) rfl (by simp)
    (fun b hb => by simp only [if_neg hb]) (by simp only [if_true]; omega) (fun n0 k0 hg => by
      obtain ⟨h2, h3⟩ := hold n0 k0 hg
      refine ⟨h2, fun e1 => ?_⟩
      obtain ⟨m, rfl, h4⟩ := h3 e1
      exact ⟨m, rfl, by omega, fun e2 => by omega⟩) (fun hext => ⟨_, .row w.heap.size es.length cap sz cur e (heap_alloc_new w _) hcap hmax hsz h0 hKn⟩)
  have hext : Ext G.K G1.K w (w.alloc (.cells cur e)) := by
    rw [hK]
    refine ⟨fun b => ?_, (ext_alloc h.kok _).cell⟩
    by_cases hb : b = w.heap.size
    · have := h.kok.zero (Nat.le_refl w.heap.size)
      rw [hb, this]
      exact Nat.zero_le _
    · simp only [if_neg hb]
      exact Nat.le_refl _
  refine ⟨G1, h1, .tip g0 r es r (.tip es.length sz) ?_ (by simp [AS.setL]) (Nat.le_refl _) fun _ m sz' hk => ?_⟩
  · exact mkSlice (heap_alloc_new w _) hcap (by rw [hK, hKn]; exact Nat.le_refl _) hs (hh.ext hext)
  · cases hk
    exact ⟨hs, Nat.le_refl _, fun _ => hV.symm⟩

theorem Rel.rowNewMo (h : Rel F G σ a w) {g0 : Tag} {r cap sz : Nat} {es : List (List PV)} {cur : Array Value} (e : TypeId) (hh : Heads G.K w cur es sz) (hs : ∀ x ∈ es, x.length = sz) (hcap : es.length ≤ cap) (hmax : cap ≤ maxLen) (hsz : cur.size = cap * sz) (h0 : 0 < sz)
    (hold : ∀ n0 k0, σ.tl g0 = some (n0, k0) → n0 < r) :
    ∃ G', Rel F G' (σ.setL g0 (r, .mo sz es)) a (w.alloc (.cells cur e)) ∧ IRel G' (σ.setL g0 (r, .mo sz es)).box (σ.setL g0 (r, .mo sz es)).tl (w.alloc (.cells cur e)) (.slice (some ⟨w.heap.size, 0, none⟩) es.length cap) (.mo g0 r) := by
  obtain ⟨G1, h1, hK, hρ, hV, hm⟩ := h.rowAlloc (g0 := g0) (r := r) (k := .mo sz es) (V' := .slice (some ⟨w.heap.size, 0, none⟩) es.length cap) (cur := cur) (e := e) (K' := G.K) rfl (by simp)
    (fun b hb => rfl) (by rw [h.kok.zero (Nat.le_refl _)]; exact Nat.zero_le _) (fun n0 k0 hg => by
      have := hold n0 k0 hg
      exact ⟨by omega, fun e1 => by omega⟩) (fun hext => ⟨_, mkMu (heap_alloc_new w _) hcap hmax hsz h0 (h.kok.zero (Nat.le_refl _)) (fun i x hx => hs x (List.mem_of_getElem? hx)) (hh.ext hext)⟩)
  exact ⟨G1, h1, .mo g0 r r (.mo sz es) rfl (by simp [AS.setL]) (Nat.le_refl _) fun _ _ _ _ => hV.symm⟩

theorem mid_tls1 (σ : AS) (v : IV) (g : Tag) (x : Nat × RK) : σ.mid { v := v, tls := [(g, x)] } = σ.setL g x := rfl

theorem m_bs (h : Rel F G σ a w) (hle : σh.le σ) {t : TypeId} {n : Nat} {parts : Array (Nat × Operand)} {sz : Nat} {xs : List Opd} (ho : o.op = .buildSlice t n parts) (hk : buildSliceOK P t n parts sz xs = true) (hn : (σ.tl (0, d, 0)).isNone = true) {r : Res} (hev : evK σh d (.bs sz xs) = some r) : Out P F σ a w o r := by
  simp only [evK] at hev
  split at hev
  case h_2 => cases hev
  rename_i es hes
  split at hev
  case isFalse => cases hev
  simp only [Option.some.injEq] at hev
  subst hev
  obtain ⟨cur, e, h1, h2, h3, h4, h5⟩ := run_buildSlice h hle ho hk hes
  obtain ⟨G1, h6, h7⟩ := h.rowNewTip (g0 := (0, d, 0)) (r := 0) e (h2.heads (cur := cur) (fun i v hi => by simpa using hi)) h2.el (Nat.le_refl _) h5 h3 h4 (fun n0 k0 hg => by rw [isNone_eq hn] at hg; cases hg)
  exact ⟨G1, _, _, .inl h1, h6, h7⟩

theorem m_bm (h : Rel F G σ a w) (hle : σh.le σ) {t : TypeId} {n : Nat} {parts : Array (Nat × Operand)} {sz : Nat} {xs : List Opd} (ho : o.op = .buildSlice t n parts) (hk : buildSliceOK P t n parts sz xs = true) (hn : (σ.tl (0, d, 0)).isNone = true) {r : Res} (hev : evK σh d (.bm sz xs) = some r) : Out P F σ a w o r := by
  simp only [evK] at hev
  split at hev
  case h_2 => cases hev
  rename_i es hes
  split at hev
  case isFalse => cases hev
  simp only [Option.some.injEq] at hev
  subst hev
  obtain ⟨cur, e, h1, h2, h3, h4, h5⟩ := run_buildSlice h hle ho hk hes
  obtain ⟨G1, h6, h7⟩ := h.rowNewMo (g0 := (0, d, 0)) (r := 0) e (h2.heads (cur := cur) (fun i v hi => by simpa using hi)) h2.el (Nat.le_refl _) h5 h3 h4 (fun n0 k0 hg => by rw [isNone_eq hn] at hg; cases hg)
  exact ⟨G1, _, _, .inl h1, h6, h7⟩

/-! ### Appends -/

/-- What is appended: so many elements, in these cells. -/
structure Src (P : Program) (w : World) (sz : Nat) (x : Value) (m : Nat) (news : List Value) : Prop where
  mk ::
  len : ∀ w', (Builtin.lenOf x).run P w' = .ok m w'
  first : ∀ w', w'.heap = w.heap → (Builtin.firstCells sz m x).run P w' = .ok news.toArray w'
  size : news.length = m * sz
  one : ∀ u ∈ news, u.oneCell' = true

def appOK (P : Program) (c : Call) (x y : Opd) (sz bytes : Nat) : Bool :=
  (match c.callee with
  | .builtin .append => true
  | _ => false) && (match c.args.toList, c.argTypes.toList with
  | [x', y'], [t, u] => opdOK x' x && opdOK y' y && (match P.underlying u with
    | some .string => true
    | some (.slice _) => true
    | _ => false) && (match P.underlying t with
    | some (.slice e) => (match P.info? e with
      | some i => decide (i.size = sz) && decide (i.bytes = bytes) && decide (0 < sz) && decide (0 < bytes) && (match i.zero with
        | some z => decide (z.cells.size = sz)
        | none => false)
      | none => false)
    | _ => false)
  | _, _ => false)

section
variable {t u ty e : TypeId} {i : TypeInfo} {z : Value} {x : Value} {m n cap : Nat} {news : List Value}

def NotInt (P : Program) (u : TypeId) : Prop := P.underlying u = some .string ∨ ∃ e, P.underlying u = some (.slice e)

theorem run_app_room (hu : NotInt P u) (ht : P.underlying t = some (.slice e)) (hi : P.info? e = some i) (hx : Src P w i.size x m news) {b : Nat} {cur : Array Value} {e' : TypeId} (hg : w.heap[b]? = some (.cells cur e' (0, 0)))
    (hroom : n + m ≤ cap) (hfit : n * i.size + news.length ≤ cur.size) :
    (Builtin.append_ #[t, u] ty #[.slice (some ⟨b, 0, none⟩) n cap, x]).run P w =
      .ok (.slice (some ⟨b, 0, none⟩) (n + m) cap) (w.setRow b (cur.toList.take (n * i.size) ++ news ++ cur.toList.drop (n * i.size + news.length)).toArray) := by
  have hst := run_storeCells_at P b (n * i.size) e' news 0 cur w hg (by simpa using hfit) hx.one
  simp only [Nat.add_zero] at hst
  have hf := hx.first w rfl
  have hl := hx.len w
  rcases hu with hu | ⟨eu, hu⟩ <;> simp [Builtin.append_, run_underlying ht, run_underlying hu, sizeOf, typeInfo, hi, hl, hroom, hf, Addr.add_lit, hst]

theorem run_app_none (hu : NotInt P u) (ht : P.underlying t = some (.slice e)) (hi : P.info? e = some i) (hx : Src P w i.size x 0 news) :
    (Builtin.append_ #[t, u] ty #[.slice none 0 0, x]).run P w = .ok (.slice none 0 0) w := by
  have hf := hx.first w rfl
  have hl := hx.len w
  rcases hu with hu | ⟨eu, hu⟩ <;> simp [Builtin.append_, run_underlying ht, run_underlying hu, sizeOf, typeInfo, hi, hl, hf]

theorem run_app_grow (hu : NotInt P u) (ht : P.underlying t = some (.slice e)) (hi : P.info? e = some i) (hz : i.zero = some z) (hx : Src P w i.size x m news) {base : Option Addr} {olds : List Value}
    (hold : (Builtin.firstCells i.size n (.slice base n cap)).run P w.drew = .ok olds.toArray w.drew)
    (hg : cap < n + m) (h63 : ((n + m : Nat) : Int) ≤ 9223372036854775807) (hfit : Builtin.nextslicecap (n + m) cap * i.bytes ≤ 281474976710656) :
    (Builtin.append_ #[t, u] ty #[.slice base n cap, x]).run P w =
      .ok (.slice (some ⟨w.heap.size, 0, none⟩) (n + m) (grownCap w (n + m) cap e))
        (w.drew.alloc (.cells (olds.toArray ++ news.toArray ++ Builtin.zeroCells z.cells (grownCap w (n + m) cap e - (n + m))) e)) := by
  have hn : ¬ (n + m ≤ cap) := by omega
  have h63' : ¬ (9223372036854775807 < ((n : Int) + (m : Int))) := by omega
  have h48' : ¬ (281474976710656 < Builtin.nextslicecap (n + m) cap * i.bytes) := by omega
  have hf := hx.first w.drew rfl
  have hl := hx.len w
  rcases hu with hu | ⟨eu, hu⟩
  all_goals
    simp [Builtin.append_, run_underlying ht, run_underlying hu, sizeOf, typeInfo, zeroValue, hi, hz, hl, hn, h63', h48', Question.forced, hf, hold, newRow, grownCap]
    congr 2
    apply Array.ext'
    simp [List.append_assoc]
end

theorem src_cases {y : IV} {ys : List (List PV)} (hy : y.src = some ys) : (∃ s, y = .p (.str s) ∧ ys = bytesOf s) ∨ y.elems = some ys := by
  unfold IV.src at hy
  split at hy
  · simp only [Option.some.injEq] at hy
    exact .inl ⟨_, rfl, hy.symm⟩
  · exact .inr hy

/-- The source of an append, from its abstract value. -/
theorem src_rel {bx : Nat → Option (List IV)} {tl : Tag → Option (Nat × RK)} {v : Value} {y : IV} {sz : Nat} {ys : List (List PV)} (h : IRel G bx tl w v y)
    (hy : y.src = some ys) (hs : ∀ e ∈ ys, e.length = sz) :
    ∃ news, Src P w sz v ys.length news ∧ Flat G.K w news ys sz := by
  rcases src_cases hy with ⟨s, rfl, rfl⟩ | hy
  · have e1 := h.inv_p.inv_str
    subst e1
    have hlen : (bytesOf s).length = s.length := by simp [bytesOf]
    have hfl : Flat G.K w (s.map fun b => Value.int .u8 b.toNat) (bytesOf s) 1 := by
      refine ⟨by simp [bytesOf], fun e he => ?_, fun i e j c hi hj => ?_⟩
      · simp only [bytesOf, List.mem_map] at he
        obtain ⟨b, _, rfl⟩ := he
        rfl
      · simp only [bytesOf, List.getElem?_map, Option.map_eq_some_iff] at hi
        obtain ⟨b, hb, rfl⟩ := hi
        cases j with
        | zero =>
          simp at hj
          subst hj
          exact ⟨.int .u8 b.toNat, by simp [hb], rfl, .int _ _⟩
        | succ j => simp at hj
    cases s with
    | nil =>
      refine ⟨[], ⟨fun w' => by simp [Builtin.lenOf, bytesOf, ByteArray.size], fun w' hw => ?_, by simp [bytesOf], by simp⟩, ⟨by simp [bytesOf], hs, by simp [bytesOf]⟩⟩
      simp [Builtin.firstCells, bytesOf]
    | cons b0 s0 =>
      have e2 : sz = 1 := by
        rw [← hs [.int .u8 b0.toNat] (by simp [bytesOf])]
        rfl
      subst e2
      refine ⟨_, ⟨fun w' => by simp [Builtin.lenOf, bytesOf, ByteArray.size], fun w' hw => ?_, by simp [bytesOf], fun u hu => ?_⟩, hfl⟩
      · rw [hlen]
        simp only [Builtin.firstCells, Sem.run_pure]
        rw [ba_extract, List.take_length]
        simp
      · simp only [List.mem_map] at hu
        obtain ⟨b, _, rfl⟩ := hu
        rfl
  · have h1 := h.inv_elems hy
    obtain ⟨ad, cap, vs, rfl, hfl, hc⟩ := h1.flat hs
    have hone : ∀ u ∈ vs, u.oneCell' = true := by
      intro u hu
      rw [List.mem_iff_getElem?] at hu
      obtain ⟨q, hq⟩ := hu
      have hlt := lt_of_getElem? hq
      rw [hfl.len] at hlt
      have hz : 0 < sz := by
        rcases Nat.eq_zero_or_pos sz with h2 | h2
        · subst h2
          simp at hlt
        · exact h2
      have hd : q / sz < ys.length := (Nat.div_lt_iff_lt_mul hz).2 hlt
      have hx : ys[q / sz]? = some ys[q / sz] := List.getElem?_eq_getElem hd
      have hl : (ys[q / sz]).length = sz := hs _ (List.getElem_mem hd)
      have hm := Nat.mod_lt q hz
      obtain ⟨u', h2, h3, _⟩ := hfl.cell (q / sz) _ (q % sz) ((ys[q / sz])[q % sz]'(by omega)) hx (by simp)
      have h9 := Nat.div_add_mod q sz
      rw [Nat.mul_comm] at h9
      rw [h9, hq] at h2
      simp at h2
      subst h2
      exact h3
    refine ⟨vs, ⟨fun w' => by simp [Builtin.lenOf], fun w' hw => ?_, hfl.len, hone⟩, hfl⟩
    rcases hc with rfl | ⟨b, off, rfl, hcell⟩
    · have : vs = [] := List.eq_nil_of_length_eq_zero (by rw [hfl.len]; simp)
      subst this
      cases ad with
      | none => simp [Builtin.firstCells]
      | some ad => simp [Builtin.firstCells, loadCells, loadCellsFrom]
    · simp only [Builtin.firstCells]
      rw [← hfl.len]
      refine run_loadCells_list (P := P) w' ⟨b, off, none⟩ vs fun j u hj => ?_
      rw [addr_add, show w'.cell? ⟨b, off + j, none⟩ = w.cell? ⟨b, off + j, none⟩ by simp [World.cell?, hw]]
      exact hcell j u hj

end

end Go.Proofs.Ytfhgjhchjekbgaa
