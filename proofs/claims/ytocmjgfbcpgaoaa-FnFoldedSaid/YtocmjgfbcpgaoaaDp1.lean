/- What the evaluator's values stand for in the machine's memory. -/
import Derived.Test.YtocmjgfbcpgaoaaDp0
import Derived.WalkKit
import Derived.Maps.AppendAt
import Derived.OrdersHeld
set_option linter.unusedVariables false
namespace Go.Dp

/-- A pure value and a machine's value: the rows lie in blocks that nobody writes any more. -/
inductive RP (w : World) (Im : Nat → Prop) : PV → Value → Prop
  | int (k : IntKind) (n : Int) : RP w Im (.int k n) (.int k n)
  | bool (b : Bool) : RP w Im (.bool b) (.bool b)
  | str (s : ByteArray) : RP w Im (.str s) (.string s)
  | agg (cs : List PV) (vs : Array Value) (hl : vs.size = cs.length) (h1 : ∀ (i : Nat) (c : PV), cs[i]? = some c → c.one = true)
      (h : ∀ (i : Nat) (c : PV) (v : Value), cs[i]? = some c → vs[i]? = some v → RP w Im c v) : RP w Im (.agg cs) (.agg vs)
  | nil (sh f : Nat) (hf : f ≠ 3) : RP w Im (.row sh f []) (.slice none 0 0)
  | row (sh f : Nat) (xs : List PV) (a : Addr) (cap : Nat) (g : Nat → Value) (hf : f ≠ 2) (hs : a.spot = none) (hc : xs.length ≤ cap) (hm : cap ≤ maxLen)
      (h1 : f = 1 → cap = xs.length) (him : 0 < xs.length → Im a.block)
      (hsh : ∀ (i : Nat) (x : PV), xs[i]? = some x → x.shp sh = true)
      (hcell : ∀ (i : Nat) (x : PV) (j : Nat) (c : PV), xs[i]? = some x → x.cells[j]? = some c → w.cell? ⟨a.block, a.off + (i * csz sh + j), none⟩ = some (g (i * csz sh + j)))
      (h : ∀ (i : Nat) (x : PV) (j : Nat) (c : PV), xs[i]? = some x → x.cells[j]? = some c → RP w Im c (g (i * csz sh + j))) : RP w Im (.row sh f xs) (.slice (some a) xs.length cap)

theorem PV.cells_of_one {v : PV} (h : v.one = true) : v.cells = [v] := by cases v <;> simp_all [PV.one, PV.cells]
theorem PV.shp_len {v : PV} {sh : Nat} (h : v.shp sh = true) : v.cells.length = csz sh := by
  cases sh with
  | zero => rw [PV.cells_of_one (by simpa [PV.shp] using h)]; rfl
  | succ n => cases v <;> simp_all [PV.shp, PV.cells, csz]
theorem PV.shp_one {v : PV} {sh : Nat} (h : v.shp sh = true) : ∀ (i : Nat) (c : PV), v.cells[i]? = some c → c.one = true := by
  cases sh with
  | zero =>
    have h' : v.one = true := by simpa [PV.shp] using h
    intro i c hc
    rw [PV.cells_of_one h'] at hc
    cases i <;> simp_all
  | succ n =>
    cases v with
    | agg cs =>
      intro i c hc
      simp [PV.shp] at h
      exact h.2 c (List.mem_of_getElem? hc)
    | _ => simp [PV.shp] at h
theorem csz_pos (sh : Nat) : 0 < csz sh := by unfold csz; split <;> omega

theorem cell_same {w w' : World} {a : Addr} (h : w'.heap[a.block]? = w.heap[a.block]?) : w'.cell? a = w.cell? a := by simp [World.cell?, h]

/-- Memory that is let go stays as it is: what is read there stays read. -/
theorem RP.mono {w w' : World} {Im Im' : Nat → Prop} (hi : ∀ b, Im b → Im' b ∧ w'.heap[b]? = w.heap[b]?) {v : PV} {x : Value} (h : RP w Im v x) : RP w' Im' v x := by
  induction h with
  | int k n => exact .int k n
  | bool b => exact .bool b
  | str s => exact .str s
  | agg cs vs hl h1 _ ih => exact .agg cs vs hl h1 ih
  | nil sh f hf => exact .nil sh f hf
  | row sh f xs a cap g hf hs hc hm h1 him hsh hcell _ ih =>
    refine .row sh f xs a cap g hf hs hc hm h1 (fun hp => (hi _ (him hp)).1) hsh ?_ ih
    intro i x j c hx hcj
    have hp : 0 < xs.length := by have := (List.getElem?_eq_some_iff.1 hx).1; omega
    exact (cell_same (w := w) (w' := w') (a := ⟨a.block, a.off + (i * csz sh + j), none⟩) (hi _ (him hp)).2).trans (hcell i x j c hx hcj)

theorem RP.one {w : World} {Im : Nat → Prop} {v : PV} {x : Value} (h : RP w Im v x) (h1 : v.one = true) : x.oneCell' = true ∧ x.cells = #[x] := by
  cases h <;> simp_all [PV.one, Value.oneCell', Value.cells]
/-- The cells of a value. -/
theorem RP.cells {w : World} {Im : Nat → Prop} {v : PV} {x : Value} (h : RP w Im v x) : x.cells.size = v.cells.length ∧ ∀ (i : Nat) (c : PV) (y : Value), v.cells[i]? = some c → x.cells[i]? = some y → RP w Im c y := by
  cases h with
  | agg cs vs hl h1 h => exact ⟨by simpa [Value.cells, PV.cells] using hl, fun i c y hc hy => h i c y (by simpa [PV.cells] using hc) (by simpa [Value.cells] using hy)⟩
  | int k n => exact ⟨rfl, fun i c y hc hy => by cases i <;> simp_all [PV.cells, Value.cells] <;> (obtain ⟨rfl, rfl⟩ := And.intro hc hy; exact .int _ _)⟩
  | bool b => exact ⟨rfl, fun i c y hc hy => by cases i <;> simp_all [PV.cells, Value.cells] <;> (obtain ⟨rfl, rfl⟩ := And.intro hc hy; exact .bool _)⟩
  | str s => exact ⟨rfl, fun i c y hc hy => by cases i <;> simp_all [PV.cells, Value.cells] <;> (obtain ⟨rfl, rfl⟩ := And.intro hc hy; exact .str _)⟩
  | nil sh f hf => exact ⟨rfl, fun i c y hc hy => by cases i <;> simp_all [PV.cells, Value.cells] <;> (obtain ⟨rfl, rfl⟩ := And.intro hc hy; exact .nil _ _ hf)⟩
  | row sh f xs a cap g hf hs hc hm h1 him hsh hcell h =>
    refine ⟨rfl, fun i c y hc' hy => ?_⟩
    cases i with
    | zero =>
      simp [PV.cells, Value.cells] at hc' hy
      subst hc'
      subst hy
      exact .row sh f xs a cap g hf hs hc hm h1 him hsh hcell h
    | succ i => simp [PV.cells] at hc'

/-- A slice of a row whose whole is 'v'. -/
def RSl (v : Value) (s lo len : Nat) (x : Value) : Prop :=
  match v with
  | .slice (some ⟨g, _, _⟩) _ cap => ∃ off, x = .slice (some ⟨g, off, none⟩) len (cap - lo) ∧ lo ≤ cap ∧ (lo = 0 ∨ 0 < cap - lo → off = lo * s)
  | .slice none _ _ => lo = 0 ∧ len = 0 ∧ x = .slice none 0 0
  | _ => False

/-- The slice of a row's place (a row with a column has its column's rows beside it). -/
def mainV : Value → Value
  | .tuple vs => (vs[0]?).getD undef
  | v => v
def kidBlk : Value → Nat → Prop
  | .slice (some a) _ _, b => a.block = b
  | _, _ => False
/-- The blocks of an object's place. -/
def Blk : Value → Nat → Prop
  | .pointer (some a), b => a.block = b
  | .slice (some a) _ _, b => a.block = b
  | .tuple vs, b => ∃ (i : Nat) (v : Value), vs[i]? = some v ∧ kidBlk v b
  | _, _ => False
@[simp] theorem mainV_slice (a n c) : mainV (.slice a n c) = .slice a n c := rfl
@[simp] theorem mainV_ptr (a) : mainV (.pointer a) = .pointer a := rfl
@[simp] theorem Blk_slice (a n c b) : Blk (.slice (some a) n c) b ↔ a.block = b := Iff.rfl
@[simp] theorem Blk_nil (n c b) : Blk (.slice none n c) b ↔ False := Iff.rfl
@[simp] theorem Blk_ptr (a b) : Blk (.pointer (some a)) b ↔ a.block = b := Iff.rfl
@[simp] theorem kidBlk_slice (a n c b) : kidBlk (.slice (some a) n c) b ↔ a.block = b := Iff.rfl
@[simp] theorem kidBlk_nil (n c b) : kidBlk (.slice none n c) b ↔ False := Iff.rfl
theorem kid_Blk {v : Value} {b : Nat} (h : kidBlk v b) : Blk v b := by
  cases v <;> try exact h.elim
  rename_i a n c; cases a <;> first | exact h.elim | exact h
theorem main_Blk {v : Value} {b : Nat} (h : kidBlk (mainV v) b) : Blk v b := by
  cases v <;> first | exact kid_Blk h | skip
  rename_i vs
  simp only [mainV] at h
  cases h0 : vs[0]? with
  | none => rw [h0] at h; exact h.elim
  | some u => rw [h0] at h; exact ⟨0, u, h0, h⟩
/-- A row's content. -/
def Row1 (w : World) (Im : Nat → Prop) (e sh : Nat) (u : Value) (ys : List PV) : Prop :=
  ∃ vals, w.ownsRow 0 e (csz sh) u ys.length vals ∧ (∀ x ∈ ys, x.shp sh = true) ∧
    ∀ (i : Nat) (x : PV) (j : Nat) (c : PV) (y : Value), ys[i]? = some x → x.cells[j]? = some c → vals[i * csz sh + j]? = some y → RP w Im c y
/-- The rows of a column: each is nobody's else. -/
structure KidsOK (w : World) (Im : Nat → Prop) (k : Kd) (sh : Nat) (xs : List PV) (vals ks : List Value) : Prop where
  len : ks.length = xs.length
  jlt : k.j < csz sh
  kid : ∀ (i : Nat) (x : PV), xs[i]? = some x → k.hole ≠ some i → ∃ f ys u, x.cells[k.j]? = some (.row k.sh f ys) ∧ (f = 0 ∨ (f = 2 ∧ u = .slice none 0 0)) ∧ ks[i]? = some u ∧ vals[i * csz sh + k.j]? = some u ∧ Row1 w Im k.e k.sh u ys
  out : ∀ (i : Nat) (u : Value), k.hole = some i → ks[i]? = some u → u = .slice none 0 0
  inj : ∀ (i i' : Nat) (u u' : Value) (b : Nat), ks[i]? = some u → ks[i']? = some u' → kidBlk u b → kidBlk u' b → i = i'
  one : ∀ (i : Nat) (y : Value), vals[i]? = some y → y.oneCell' = true
/-- A cell of an element: one of a column is told apart. -/
def RPk (w : World) (Im : Nat → Prop) (e : Et) (j : Nat) (c : PV) (y : Value) : Prop :=
  match e.kd with
  | none => RP w Im c y
  | some k => j ≠ k.j → RP w Im c y
/-- The column, if there is one. -/
def RKids (w : World) (Im : Nat → Prop) (e : Et) (sh : Nat) (fz : Bool) (xs : List PV) (vals : List Value) (v : Value) : Prop :=
  match e.kd with
  | none => fz = false → mainV v = v
  | some k => fz = false ∧ ∃ ks : List Value, v = .tuple (mainV v :: ks).toArray ∧ KidsOK w Im k sh xs vals ks ∧ ∀ (i : Nat) (u : Value) (b : Nat), ks[i]? = some u → kidBlk u b → ¬ kidBlk (mainV v) b
section
variable (w : World) (Im : Nat → Prop) (ρ : Nat → Option Value) (o : List AObj)
def RB (id off : Nat) (x : Value) : Prop :=
  match o[id]? with
  | some (.box _) => ∃ b, ρ id = some (.pointer (some ⟨b, 0, none⟩)) ∧ x = .pointer (some ⟨b, off, none⟩)
  | some _ => True
  | none => False
def RC : CV → Value → Prop
  | .undef, _ => True
  | .p v, x => RP w Im v x
  | .loc id ver sh lo len, x =>
    match o[id]? with
    | some (.arr _ sh' ver' _ xs) => ver ≤ ver' ∧ (ver = ver' → sh = sh' → lo + len ≤ xs.length ∧ ∃ v, ρ id = some v ∧ RSl (mainV v) (csz sh) lo len x)
    | some _ => True
    | none => False
  | .bptr id off, x => RB ρ o id off x
  | .aptr id ver sh i off, x =>
    match o[id]? with
    | some (.arr _ sh' ver' _ xs) => ver ≤ ver' ∧ (ver = ver' → sh = sh' → i < xs.length ∧ ∃ g n cap v, ρ id = some v ∧ mainV v = .slice (some ⟨g, 0, none⟩) n cap ∧ x = .pointer (some ⟨g, i * csz sh + off, none⟩))
    | some _ => True
    | none => False
  | .eptr v sh off, x => ∃ b base, x = .pointer (some ⟨b, base + off, none⟩) ∧ Im b ∧ v.shp sh = true ∧ ∀ (j : Nat) (c : PV), v.cells[j]? = some c → ∃ y, w.cell? ⟨b, base + j, none⟩ = some y ∧ RP w Im c y
  | .fn f caps, x => ∃ vs, x = .func (.func f) #[] vs ∧ vs.size = caps.length ∧ ∀ (i : Nat) (id : Nat), caps[i]? = some id → ∃ y, vs[i]? = some y ∧ RB ρ o id 0 y
  | .own .., _ => False
  | .nel id ver nv i, x =>
    match o[id]? with
    | some (.arr e _ ver' _ xs) => ver ≤ ver' ∧ (ver = ver' → ∀ k, e.kd = some k → nv ≤ k.nv ∧ (nv = k.nv → k.hole = none → i < xs.length ∧ ∃ m ks, ρ id = some (.tuple (m :: ks : List Value).toArray) ∧ ks[i]? = some x))
    | some _ => True
    | none => False
def RS : SV → Value → Prop
  | .c c, x => RC w Im ρ o c x
  | .agg cs, x => ∃ vs, x = .agg vs ∧ vs.size = cs.length ∧ (∀ (i : Nat) (c : CV) (y : Value), cs[i]? = some c → vs[i]? = some y → RC w Im ρ o c y) ∧ ∀ (i : Nat) (y : Value), vs[i]? = some y → y.oneCell' = true
def RA : AV → Value → Prop
  | .s v, x => RS w Im ρ o v x
  | .tup ts, x => ∃ vs, x = .tuple vs ∧ vs.size = ts.length ∧ ∀ (i : Nat) (c : SV) (y : Value), ts[i]? = some c → vs[i]? = some y → RS w Im ρ o c y
def RO (v : Value) : AObj → Prop
  | .dead => True
  | .box cs => ∃ b vs e, v = .pointer (some ⟨b, 0, none⟩) ∧ w.heap[b]? = some (.cells vs e (0, 0)) ∧ vs.size = cs.length ∧ (∀ (i : Nat) (c : CV) (y : Value), cs[i]? = some c → vs[i]? = some y → RC w Im ρ o c y) ∧ (∀ (i : Nat) (y : Value), vs[i]? = some y → y.oneCell' = true) ∧ ¬ Im b
  | .arr e sh _ fz xs => ∃ vals, w.ownsRow 0 e.t (csz sh) (mainV v) xs.length vals ∧ (∀ x ∈ xs, x.shp sh = true) ∧
      (∀ (i : Nat) (x : PV) (j : Nat) (c : PV) (y : Value), xs[i]? = some x → x.cells[j]? = some c → vals[i * csz sh + j]? = some y → RPk w Im e j c y) ∧
      (∀ b, Blk v b → (fz = false → ¬ Im b) ∧ (fz = true → Im b)) ∧ RKids w Im e sh fz xs vals v
end

structure SR (w : World) (Im : Nat → Prop) (ρ : Nat → Option Value) (o : List AObj) : Prop where
  ob : ∀ id x v, o[id]? = some x → ρ id = some v → RO w Im ρ o v x
  inj : ∀ id id' v v' b, ρ id = some v → ρ id' = some v' → Blk v b → Blk v' b → id = id'
  lt : ∀ id v, ρ id = some v → id < o.length ∧ ∀ b, Blk v b → b < w.heap.size
  im : ∀ b, Im b → b < w.heap.size
  dd : ∀ id, o[id]? = some .dead → ρ id = none

/-- The world has gone on. -/
structure Wd (w w' : World) : Prop where
  os : w'.os = w.os
  tape : w'.tape = w.tape
  output : w'.output = w.output
  size : w.heap.size ≤ w'.heap.size
theorem Wd.refl (w : World) : Wd w w := ⟨rfl, rfl, rfl, Nat.le_refl _⟩
theorem Wd.trans {a b c : World} (h : Wd a b) (k : Wd b c) : Wd a c := ⟨k.os.trans h.os, k.tape.trans h.tape, k.output.trans h.output, Nat.le_trans h.size k.size⟩

/-- Every object has its place. -/
def Mapped (ρ : Nat → Option Value) (o : List AObj) : Prop := ∀ id x, o[id]? = some x → x ≠ .dead → ∃ v, ρ id = some v

/-- Objects stay; what has no place gets none but by a new object. -/
def Grown (ρ : Nat → Option Value) (o : List AObj) (ρ' : Nat → Option Value) (o' : List AObj) : Prop := o.length ≤ o'.length ∧ ∀ id, id < o.length → ρ id = none → ρ' id = none
theorem Grown.refl {ρ o} : Grown ρ o ρ o := ⟨Nat.le_refl _, fun _ _ h => h⟩
theorem Grown.trans {ρ o ρ1 o1 ρ2 o2} (h : Grown ρ o ρ1 o1) (k : Grown ρ1 o1 ρ2 o2) : Grown ρ o ρ2 o2 := ⟨Nat.le_trans h.1 k.1, fun id hl hn => k.2 id (Nat.lt_of_lt_of_le hl h.1) (h.2 id hl hn)⟩
/-- From one state of memory to a later one: what was told of values still holds; who wrote what. -/
structure Step (w : World) (Im : Nat → Prop) (ρ : Nat → Option Value) (o : List AObj) (w' : World) (Im' : Nat → Prop) (ρ' : Nat → Option Value) (o' : List AObj) : Prop where
  wd : Wd w w'
  sr : SR w' Im' ρ' o'
  keep : ∀ c x, RC w Im ρ o c x → RC w' Im' ρ' o' c x
  fr : ∀ b, b < w.heap.size → (∀ id v, ρ id = some v → ¬ Blk v b) → w'.heap[b]? = w.heap[b]?
  ow : ∀ id v b, ρ' id = some v → Blk v b → w.heap.size ≤ b ∨ ∃ id' v', ρ id' = some v' ∧ Blk v' b
  im : ∀ b, Im b → Im' b ∧ w'.heap[b]? = w.heap[b]?
  imn : ∀ b, Im' b → Im b ∨ w.heap.size ≤ b ∨ ∃ id v, ρ id = some v ∧ Blk v b
  mp : Mapped ρ o → Mapped ρ' o'
  gr : Grown ρ o ρ' o'
theorem Step.refl {w Im ρ o} (h : SR w Im ρ o) : Step w Im ρ o w Im ρ o :=
  ⟨Wd.refl w, h, fun _ _ h => h, fun _ _ _ => rfl, fun id v b h1 h2 => .inr ⟨id, v, h1, h2⟩, fun _ h => ⟨h, rfl⟩, fun _ h => .inl h, fun h => h, Grown.refl⟩
theorem Step.trans {w Im ρ o w1 Im1 ρ1 o1 w2 Im2 ρ2 o2} (h : Step w Im ρ o w1 Im1 ρ1 o1) (k : Step w1 Im1 ρ1 o1 w2 Im2 ρ2 o2) : Step w Im ρ o w2 Im2 ρ2 o2 := by
  refine ⟨h.wd.trans k.wd, k.sr, fun c x hc => k.keep c x (h.keep c x hc), ?_, ?_, fun b hb => ?_, ?_, fun hm => k.mp (h.mp hm), h.gr.trans k.gr⟩
  · intro b hb hno
    rw [k.fr b (Nat.lt_of_lt_of_le hb h.wd.size) ?_, h.fr b hb hno]
    intro id v hv hbk
    rcases h.ow id v b hv hbk with hge | ⟨id', v', h1, h2⟩
    · omega
    · exact hno id' v' h1 h2
  · intro id v b hv hb
    rcases k.ow id v b hv hb with hge | ⟨id', v', h1, h2⟩
    · exact .inl (Nat.le_trans h.wd.size hge)
    · exact h.ow id' v' b h1 h2
  · have h1 := h.im b hb
    have h2 := k.im b h1.1
    exact ⟨h2.1, h2.2.trans h1.2⟩
  · intro b hb
    rcases k.imn b hb with h1 | h1 | ⟨id, v, h1, h2⟩
    · exact h.imn b h1
    · exact .inr (.inl (Nat.le_trans h.wd.size h1))
    · rcases h.ow id v b h1 h2 with hge | ⟨id', v', h3, h4⟩
      · exact .inr (.inl hge)
      · exact .inr (.inr ⟨id', v', h3, h4⟩)
theorem Step.keepS {w Im ρ o w' Im' ρ' o'} (h : Step w Im ρ o w' Im' ρ' o') : ∀ v x, RS w Im ρ o v x → RS w' Im' ρ' o' v x := by
  intro v x hv
  cases v with
  | c c => exact h.keep c x hv
  | agg cs => obtain ⟨vs, rfl, h1, h2, h3⟩ := hv; exact ⟨vs, rfl, h1, fun i c y hc hy => h.keep c y (h2 i c y hc hy), h3⟩
theorem Step.keepA {w Im ρ o w' Im' ρ' o'} (h : Step w Im ρ o w' Im' ρ' o') : ∀ v x, RA w Im ρ o v x → RA w' Im' ρ' o' v x := by
  intro v x hv
  cases v with
  | s v => exact h.keepS v x hv
  | tup ts => obtain ⟨vs, rfl, h1, h2⟩ := hv; exact ⟨vs, rfl, h1, fun i c y hc hy => h.keepS c y (h2 i c y hc hy)⟩

end Go.Dp
