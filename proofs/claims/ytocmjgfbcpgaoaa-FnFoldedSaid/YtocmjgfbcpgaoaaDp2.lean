/- The evaluator's operations are the machine's. -/
import Derived.Test.YtocmjgfbcpgaoaaDp1
import Derived.Laws.StructEq
set_option linter.unusedVariables false
set_option linter.unusedSimpArgs false
namespace Go.Dp

/-- What the library's sort (1) and its compacting leave of a row of integers, and what they return. -/
def sortRes (n : Nat) (zs : List Int) : List Int := if n = 1 then sortI zs else compI zs ++ List.replicate (zs.length - (compI zs).length) 0
def sortRet (n : Nat) (zs : List Int) (a : Option Addr) (cap : Nat) : Value := if n = 1 then .tuple #[] else .slice a (compI zs).length cap
structure SortOK (P : Program) (n : Nat) (g : FuncId) : Prop where
  enters : ∃ fn, P.funcs[g]? = some fn ∧ fn.body.isSome = true ∧ fn.name ≠ "runtime.NumGoroutine"
  empty : ∀ (w : World) (p : Option Addr) (cap : Nat), Calls P g #[.slice p 0 cap] w fun e w' => e = .returned (sortRet n [] p cap) ∧ w' = w
  row : ∀ (w : World) (b cap : Nat) (zs : List Int) (cu : Array Value) (e : TypeId), w.heap[b]? = some (.cells cu e (0, 0)) → cu.toList.take zs.length = zs.map (Value.int .i64) → zs.length ≤ cap → zs.length ≤ LIM →
    Calls P g #[.slice (some ⟨b, 0, none⟩) zs.length cap] w fun e' w' => e' = .returned (sortRet n zs (some ⟨b, 0, none⟩) cap) ∧ Wd w w' ∧ (∀ k, k < w.heap.size → k ≠ b → w'.heap[k]? = w.heap[k]?) ∧
      ∃ cu', w'.heap[b]? = some (.cells cu' e (0, 0)) ∧ cu'.size = cu.size ∧ cu'.toList = (sortRes n zs).map (Value.int .i64) ++ cu.toList.drop zs.length
/-- What the evaluator is told of the types is so. -/
structure EnvOK (P : Program) (E : Env) : Prop where
  mixed : P.follows .mixedOrders = true
  sl : ∀ T e sh by_, E.sl T = some (e, sh, by_) → P.underlying T = some (.slice e) ∧ (∃ i z, P.info? e = some i ∧ i.size = csz sh ∧ i.bytes = by_ ∧ i.zero = some z ∧ z.cells.size = csz sh) ∧ E.sh e = some sh ∧ 0 < by_
  sh0 : ∀ T, E.sh T = some 0 → ∃ d i, P.underlying T = some d ∧ (∀ fs, d ≠ .struct fs) ∧ (∀ n e, d ≠ .array n e) ∧ P.info? T = some i ∧ i.size = 1
  shn : ∀ T n, E.sh T = some (n + 1) → ∃ fs i, P.underlying T = some (.struct fs) ∧ P.info? T = some i ∧ i.size = n + 1 ∧ ∀ fd ∈ fs.toList, ∃ j, P.info? fd.type = some j
  fl : ∀ T f off fsh, E.fl T f = some (off, fsh) → ∃ fs fd i, P.underlying T = some (.struct fs) ∧ fs[f]? = some fd ∧ fd.offset = off ∧ P.info? fd.type = some i ∧ i.size = csz fsh
  ik : ∀ T k, E.ik T = some k → P.underlying T = some (.int k)
  zr : ∀ T zs, E.zr T = some zs → ∃ i z sh, P.info? T = some i ∧ i.zero = some z ∧ z.cells.size = zs.length ∧ E.sh T = some sh ∧ zs.length = csz sh ∧ (∀ c ∈ zs, c.one = true) ∧
      ∀ (i : Nat) (c : PV) (y : Value), zs[i]? = some c → z.cells[i]? = some y → ∀ w Im, RP w Im c y
  bl : ∀ T, E.bl T = true → P.underlying T = some .bool
  srt : ∀ g n, E.sorts g = n → n ≠ 0 → SortOK P n g
  st : ∀ T, E.st T = true → P.underlying T = some .string
  eqs : ∀ T ks, E.eqs T = some ks → ∀ (w : World) (x y : Operand) (Im : Nat → Prop) (as bs : List PV) (vs us : Array Value) (b : Bool), RP w Im (.agg as) (.agg vs) → RP w Im (.agg bs) (.agg us) → cellsEq ks as bs = some b →
      (do eqGuard .eql T x y (.agg vs) (.agg us); binOp .eql T (.agg vs) (.agg us)).run P w = .ok (.bool b) w ∧ (do eqGuard .neq T x y (.agg vs) (.agg us); binOp .neq T (.agg vs) (.agg us)).run P w = .ok (.bool !b) w

section
variable {P : Program} {E : Env} {w : World} {Im : Nat → Prop} {ρ : Nat → Option Value} {o : List AObj}

theorem run_isAgg0 (hE : EnvOK P E) {T : TypeId} (h : E.sh T = some 0) (w : World) : (isAgg T).run P w = .ok false w := by
  obtain ⟨d, i, hd, h1, h2, _⟩ := hE.sh0 T h
  simp only [isAgg, Sem.run_bind, run_underlying hd, Result.andThen_ok]
  cases d <;> simp_all
theorem run_isAggN (hE : EnvOK P E) {T : TypeId} {n : Nat} (h : E.sh T = some (n + 1)) (w : World) : (isAgg T).run P w = .ok true w := by
  obtain ⟨fs, i, hd, _⟩ := hE.shn T n h
  simp [isAgg, run_underlying hd]
theorem run_size (hE : EnvOK P E) {T : TypeId} {sh : Nat} (h : E.sh T = some sh) (w : World) : (sizeOf T).run P w = .ok (csz sh) w := by
  cases sh with
  | zero =>
    obtain ⟨d, i, _, _, _, hi, hs⟩ := hE.sh0 T h
    simp [sizeOf, typeInfo, hi, hs, csz]
  | succ n =>
    obtain ⟨fs, i, _, hi, hs, _⟩ := hE.shn T n h
    simp [sizeOf, typeInfo, hi, hs, csz]

/-! ### Operators -/
theorem bitsOp_sound {op : BinOp} (h : op = .and ∨ op = .or ∨ op = .xor ∨ op = .andNot) (k : IntKind) (x y : Int) (w : World) :
    (Op.intBits op k x y).run P w = .ok (.int k (bitsOp op k x y)) w := by
  rcases h with rfl | rfl | rfl | rfl <;> simp [Op.intBits, bitsOp]
theorem eqGuard_plain (op : BinOp) (T : TypeId) (x y : Operand) (a b : Value) (ha : ∀ vs, a ≠ .agg vs) (hn : a ≠ .nilIface) (w : World) : (eqGuard op T x y a b).run P w = .ok () w := by
  unfold eqGuard
  cases op <;> cases a <;> first | exact absurd rfl hn | exact absurd rfl (ha _) | simp
theorem intBin_sound {op : BinOp} {k : IntKind} {a b : Int} {v : PV} (h : intBin op k a b = some v) (T : TypeId) (w : World) (Im : Nat → Prop) :
    ∃ y, (binOp op T (.int k a) (.int k b)).run P w = .ok y w ∧ RP w Im v y := by
  cases op <;> simp only [intBin] at h <;>
    first
      | (cases h; done)
      | (injection h with h; subst h; refine ⟨_, ?_, RP.int _ _⟩; simp [binOp, Op.intArith, bitsOp_sound]; done)
      | (injection h with h; subst h; refine ⟨_, ?_, RP.bool _⟩; simp [binOp, Op.intCmp]; done)
      | (cases hb : (b == 0) <;> rw [hb] at h <;> simp only [cond_true, cond_false] at h <;>
          first
            | (cases h; done)
            | (injection h with h; subst h; refine ⟨_, ?_, RP.int _ _⟩; have : ¬ b = 0 := by simpa using hb
               simp [binOp, Op.intDiv, this]))
theorem shift_sound {op : BinOp} {k k' : IntKind} {a b : Int} {v : PV} (hop : op = .shl ∨ op = .shr) (h : shiftBin op k a b = some v) (T : TypeId) (w : World) (Im : Nat → Prop) :
    ∃ y, (binOp op T (.int k a) (.int k' b)).run P w = .ok y w ∧ RP w Im v y := by
  unfold shiftBin at h
  cases hb : decide (b < 0) <;> rw [hb] at h <;> simp only [cond_true, cond_false] at h
  · have hn : ¬ b < 0 := by simpa using hb
    rcases hop with rfl | rfl <;> simp only at h <;> injection h with h <;> subst h <;> refine ⟨_, ?_, RP.int _ _⟩ <;> simp [binOp, Op.shift, hn]
  · cases h
theorem strBin_sound {op : BinOp} {a b : ByteArray} {v : PV} (h : strBin op a b = some v) (T : TypeId) (w : World) (Im : Nat → Prop) :
    ∃ y, (binOp op T (.string a) (.string b)).run P w = .ok y w ∧ RP w Im v y := by
  have e : ∀ op', binOp op' T (.string a) (.string b) = Op.stringOp op' a b := fun op' => by cases op' <;> rfl
  rw [e]
  cases op <;> simp only [strBin] at h <;>
    first
      | (cases h; done)
      | (injection h with h; subst h; refine ⟨_, ?_, RP.bool _⟩; simp [Op.stringOp]; done)
      | skip
  cases hb : decide (a.size + b.size ≤ 9223372036854775807) <;> rw [hb] at h <;> simp only [cond_true, cond_false] at h
  · cases h
  · injection h with h
    subst h
    have hle : a.size + b.size ≤ 9223372036854775807 := by simpa using hb
    refine ⟨_, ?_, RP.str _⟩
    have hn : ¬ (((a.size + b.size : Nat) : Int) > IntKind.i64.max) := by
      have : IntKind.i64.max = 9223372036854775807 := rfl
      rw [this]
      omega
    simp only [Op.stringOp]
    rw [if_neg hn]
    rfl
theorem pbinT_sound (hE : EnvOK P E) {op : BinOp} {T : TypeId} {a b v : PV} {x y : Value} (ox oy : Operand) (h : pbinT (E.eqs T) (E.bl T) op a b = some v) (ha : RP w Im a x) (hb : RP w Im b y) :
    ∃ z, (do eqGuard op T ox oy x y; binOp op T x y).run P w = .ok z w ∧ RP w Im v z := by
  cases ha with
  | agg as vs hl h1 hh =>
    cases hb with
    | agg bs us hl' h1' hh' =>
      simp only [pbinT] at h
      cases he : E.eqs T with
      | none => rw [he] at h; cases op <;> cases h
      | some ks =>
        rw [he] at h
        cases op <;> simp only at h <;> first | (cases h; done) | skip
        all_goals
          obtain ⟨c, hc, rfl⟩ := Option.map_eq_some_iff.1 h
          have := hE.eqs T ks he w ox oy Im as bs vs us c (.agg as vs hl h1 hh) (.agg bs us hl' h1' hh') hc
          first | exact ⟨_, this.1, RP.bool _⟩ | exact ⟨_, this.2, RP.bool _⟩
    | _ => simp [pbinT, pbin] at h
  | int k n =>
    cases hb with
    | int k' m =>
      simp only [pbinT, pbin] at h
      have hg : (eqGuard op T ox oy (.int k n) (.int k' m)).run P w = .ok () w := eqGuard_plain _ _ _ _ _ _ (by simp) (by simp) w
      simp only [Sem.run_bind, hg, Result.andThen_ok]
      cases op <;> simp only at h <;>
        first
          | exact shift_sound (.inl rfl) h T w Im
          | exact shift_sound (.inr rfl) h T w Im
          | (split at h
             · rename_i hk; subst hk; exact intBin_sound h T w Im
             · cases h)
    | _ => simp [pbinT, pbin] at h
  | str s =>
    cases hb with
    | str s' =>
      simp only [pbinT, pbin] at h
      have hg : (eqGuard op T ox oy (.string s) (.string s')).run P w = .ok () w := eqGuard_plain _ _ _ _ _ _ (by simp) (by simp) w
      simp only [Sem.run_bind, hg, Result.andThen_ok]
      exact strBin_sound h T w Im
    | _ => simp [pbinT, pbin] at h
  | bool p =>
    cases hb with
    | bool q =>
      simp only [pbinT] at h
      have hg : (eqGuard op T ox oy (.bool p) (.bool q)).run P w = .ok () w := eqGuard_plain _ _ _ _ _ _ (by simp) (by simp) w
      simp only [Sem.run_bind, hg, Result.andThen_ok]
      unfold boolBin at h
      cases op <;> simp only at h <;> first | (cases h; done) | skip
      all_goals
        cases hb : E.bl T <;> rw [hb] at h <;> simp only [cond_true, cond_false] at h
        · cases h
        · injection h with h
          subst h
          have hu := hE.bl T hb
          refine ⟨_, ?_, RP.bool _⟩
          simp [binOp, Op.equal, Op.maxDepth, run_equalIn_bool' (P := P) w 9999 T p q hu]
    | _ => simp [pbinT, pbin] at h
  | _ => cases hb <;> simp [pbinT, pbin] at h
theorem pun_sound {op : UnOp} {a v : PV} {x : Value} (h : pun op a = some v) (ha : RP w Im a x) : ∃ z, (Op.unary op x).run P w = .ok z w ∧ RP w Im v z := by
  cases ha with
  | int k n =>
    cases op <;> simp only [pun] at h <;> first | (cases h; done) | skip
    · injection h with h; subst h; exact ⟨_, by simp [Op.unary, Op.intArith], RP.int _ _⟩
    · injection h with h; subst h; exact ⟨_, by simp [Op.unary, bitsOp_sound], RP.int _ _⟩
  | bool b =>
    cases op <;> simp only [pun] at h <;> first | (cases h; done) | skip
    injection h with h; subst h; exact ⟨_, by simp [Op.unary], RP.bool _⟩
  | _ => simp [pun] at h
end
end Go.Dp
