/- Tables of a program's types, and one check of them. -/
import Derived.Test.YtocmjgfbcpgaoaaDp20
set_option linter.unusedVariables false
set_option linter.unusedSimpArgs false
namespace Go.Dp

def lk {α : Type} : List (Nat × α) → Nat → Option α
  | [], _ => none
  | (k, v) :: r, T => match k == T with
    | true => some v
    | false => lk r T
theorem lk_mem {α : Type} {T : Nat} {v : α} : ∀ {l : List (Nat × α)}, lk l T = some v → (T, v) ∈ l
  | [], h => by simp [lk] at h
  | (k, u) :: r, h => by
    simp only [lk] at h
    split at h
    · rename_i he
      simp at he
      subst he
      injection h with h
      subst h
      simp
    · exact List.mem_cons_of_mem _ (lk_mem h)
structure Tabs where
  sl : List (Nat × (TypeId × Nat × Nat))
  sh : List (Nat × Nat)
  fl : List (Nat × List (Option (Nat × Nat)))
  ik : List (Nat × IntKind)
  zr : List (Nat × List PV)
  eqs : List (Nat × List Nat)
  bl : List (Nat × Unit)
  st : List (Nat × Unit)
  flat : List (Nat × Unit)
def Tabs.env (t : Tabs) (live : List (Nat × List (Nat × List Nat))) (rk : List (Nat × List RK)) (bk : List (Nat × List (List Kind))) (plain : List (Nat × Unit)) (ct : List (Nat × CT)) (ak : List (Nat × List CT)) (own : List (Nat × List (Nat × List (Option Nat × Nat × Et × Nat)))) (cut : List (Nat × List (Nat × List Nat))) (nest : List (Nat × Kd) := []) (sorts : List (Nat × Nat) := []) : Env where
  sorts g := (lk sorts g).getD 0
  nest := lk nest
  cut f b := match lk cut f with
    | some l => lk l b
    | none => none
  ct T := (lk ct T).getD (.one .any)
  ak f := (lk ak f).getD []
  own f b := match lk own f with
    | some l => (lk l b).getD []
    | none => []
  sl := lk t.sl
  sh := lk t.sh
  fl T f := match lk t.fl T with
    | some l => match l[f]? with
      | some x => x
      | none => none
    | none => none
  ik := lk t.ik
  zr := lk t.zr
  eqs := lk t.eqs
  bl T := (lk t.bl T).isSome
  st T := (lk t.st T).isSome
  flat T := (lk t.flat T).isSome
  live f b := match lk live f with
    | some l => (lk l b).getD []
    | none => []
  rk f := (lk rk f).getD []
  bk := lk bk
  plain f := (lk plain f).isSome

def cellOk : PV → Value → Bool
  | .int k n, .int k' n' => decide (k = k') && decide (n = n')
  | .bool b, .bool b' => b == b'
  | .str s, .string s' => decide (s = s')
  | .row _ f [], .slice none 0 0 => f != 3
  | _, _ => false
def cellsOk : List PV → List Value → Bool
  | [], [] => true
  | a :: as, b :: bs => cellOk a b && a.one && cellsOk as bs
  | _, _ => false
def plainField (P : Program) (n k : Nat) (f : Field) : Bool :=
  f.offset == n && f.name != "_" && (match k, P.underlying f.type with | 0, some (.int _) => true | 1, some .bool => true | 2, some .string => true | _, _ => false)
def plainFields (P : Program) : Nat → List Nat → List Field → Bool
  | _, [], [] => true
  | n, k :: ks, f :: fs => plainField P n k f && plainFields P (n + 1) ks fs
  | _, _, _ => false
def Tabs.ok (P : Program) (t : Tabs) : Bool :=
  P.follows .mixedOrders &&
  (t.sl.all fun (T, e, sh, by_) => (match P.underlying T with | some (.slice e') => e' == e | _ => false) && (match P.info? e with | some i => i.size == csz sh && i.bytes == by_ && (match i.zero with | some z => z.cells.size == csz sh | none => false) | none => false) && (match lk t.sh e with | some s => s == sh | none => false) && decide (0 < by_)) &&
  (t.sh.all fun (T, n) => match n with
    | 0 => (match P.underlying T with | some (.struct _) | some (.array _ _) | none => false | some _ => true) && (match P.info? T with | some i => i.size == 1 | none => false)
    | n + 1 => match P.underlying T with
      | some (.struct fs) => (match P.info? T with | some i => i.size == n + 1 | none => false) && fs.toList.all fun fd => (P.info? fd.type).isSome
      | _ => false) &&
  (t.fl.all fun (T, l) => match P.underlying T with
    | some (.struct fs) => (List.range l.length).all fun f => match l[f]? with
      | some (some (off, sh)) => (match fs[f]? with | some fd => fd.offset == off && (match P.info? fd.type with | some i => i.size == csz sh | none => false) | none => false)
      | _ => true
    | _ => false) &&
  (t.ik.all fun (T, k) => match P.underlying T with | some (.int k') => decide (k' = k) | _ => false) &&
  (t.zr.all fun (T, zs) => (match P.info? T with | some i => (match i.zero with | some z => cellsOk zs z.cells.toList | none => false) | none => false) && (match lk t.sh T with | some s => zs.length == csz s | none => false)) &&
  (t.eqs.all fun (T, ks) => !P.stoodInHeld T && !P.eqGuardType P.depth T && (match P.underlying T with | some (.struct fs) => plainFields P 0 ks fs.toList | _ => false)) &&
  (t.bl.all fun (T, _) => match P.underlying T with | some .bool => true | _ => false) &&
  (t.st.all fun (T, _) => match P.underlying T with | some .string => true | _ => false)

section
variable {P : Program} {w : World} {Im : Nat → Prop}
theorem cellOk_sound {a : PV} {y : Value} (h : cellOk a y = true) (w : World) (Im : Nat → Prop) : RP w Im a y := by
  unfold cellOk at h
  split at h
  · simp only [Bool.and_eq_true, decide_eq_true_eq] at h; obtain ⟨rfl, rfl⟩ := h; exact .int _ _
  · simp at h; subst h; exact .bool _
  · simp at h; subst h; exact .str _
  · exact .nil _ _ (by simpa using h)
  · cases h
theorem cellsOk_sound : ∀ {as : List PV} {ys : List Value}, cellsOk as ys = true → ys.length = as.length ∧ (∀ c ∈ as, c.one = true) ∧ ∀ (i : Nat) (c : PV) (y : Value), as[i]? = some c → ys[i]? = some y → ∀ w Im, RP w Im c y
  | [], [], h => ⟨rfl, by simp, fun i c y hc => by simp at hc⟩
  | a :: as, b :: bs, h => by
    simp only [cellsOk, Bool.and_eq_true] at h
    obtain ⟨h1, h2, h3⟩ := cellsOk_sound h.2
    refine ⟨by simp [h1], fun c hc => ?_, fun i c y hc hy => ?_⟩
    · rcases List.mem_cons.1 hc with rfl | hc
      · exact h.1.2
      · exact h2 c hc
    · cases i with
      | zero => simp at hc hy; subst hc; subst hy; exact fun w Im => cellOk_sound h.1.1 w Im
      | succ i => exact h3 i c y (by simpa using hc) (by simpa using hy)
  | [], _ :: _, h => by simp [cellsOk] at h
  | _ :: _, [], h => by simp [cellsOk] at h
theorem eqField_sound {n k d : Nat} {f : Field} (hf : plainField P n k f = true) {xs ys : Array Value} {a b : PV} {x y : Value} {r : Bool} (hx : xs[n]? = some x) (hy : ys[n]? = some y) (ha : RP w Im a x) (hb : RP w Im b y) (h : cellEq k a b = some r) :
    (part f.type xs f.offset).run P w = .ok x w ∧ (part f.type ys f.offset).run P w = .ok y w ∧ (Op.equalIn (d + 1) f.type x y).run P w = .ok r w ∧ f.name ≠ "_" := by
  simp only [plainField, Bool.and_eq_true, beq_iff_eq, bne_iff_ne] at hf
  obtain ⟨⟨rfl, hn⟩, hu⟩ := hf
  split at hu
  · rename_i k2 hk
    cases ha <;> cases hb <;> simp only [cellEq] at h <;> first | (cases h; done) | skip
    split at h
    · injection h with h
      subst h
      rename_i he
      subst he
      have hagg : (isAgg f.type).run P w = .ok false w := by simp [isAgg, run_underlying hk]
      exact ⟨by simp [part, hagg, hx], by simp [part, hagg, hy], run_equalIn_int w d _ _ _ _ _ hk, hn⟩
    · cases h
  · rename_i hk
    cases ha <;> cases hb <;> simp only [cellEq] at h <;> first | (cases h; done) | skip
    injection h with h
    subst h
    have hagg : (isAgg f.type).run P w = .ok false w := by simp [isAgg, run_underlying hk]
    exact ⟨by simp [part, hagg, hx], by simp [part, hagg, hy], run_equalIn_bool' w d _ _ _ hk, hn⟩
  · rename_i hk
    cases ha <;> cases hb <;> simp only [cellEq] at h <;> first | (cases h; done) | skip
    injection h with h
    subst h
    have hagg : (isAgg f.type).run P w = .ok false w := by simp [isAgg, run_underlying hk]
    exact ⟨by simp [part, hagg, hx], by simp [part, hagg, hy], run_equalIn_string w d _ _ _ hk, hn⟩
  · cases hu
theorem eqFields_sound {d : Nat} {xs ys : Array Value} : ∀ {n : Nat} {ks : List Nat} {fs : List Field} {as bs : List PV} {r : Bool}, plainFields P n ks fs = true → (∀ (i : Nat) (c : PV), as[i]? = some c → ∃ y, xs[n + i]? = some y ∧ RP w Im c y) →
    (∀ (i : Nat) (c : PV), bs[i]? = some c → ∃ y, ys[n + i]? = some y ∧ RP w Im c y) → cellsEq ks as bs = some r → (Op.eqFields (d + 1) xs ys fs).run P w = .ok r w
  | n, [], [], [], [], r, _, _, _, h => by simp [cellsEq] at h; subst h; simp [Op.eqFields]
  | n, k :: ks, f :: fs, a :: as, b :: bs, r, hp, ha, hb, h => by
    simp only [plainFields, Bool.and_eq_true] at hp
    simp only [cellsEq] at h
    split at h
    · rename_i u v h1 h2
      injection h with h
      subst h
      obtain ⟨x, hx, hax⟩ := ha 0 a rfl
      obtain ⟨y, hy, hby⟩ := hb 0 b rfl
      obtain ⟨g1, g2, g3, g4⟩ := eqField_sound (d := d) hp.1 (by simpa using hx) (by simpa using hy) hax hby h1
      have ih := eqFields_sound (d := d) (n := n + 1) hp.2 (fun i c hc => by
        obtain ⟨z, hz, hr⟩ := ha (i + 1) c (by simpa using hc)
        exact ⟨z, by rw [show n + 1 + i = n + (i + 1) by omega]; exact hz, hr⟩) (fun i c hc => by
        obtain ⟨z, hz, hr⟩ := hb (i + 1) c (by simpa using hc)
        exact ⟨z, by rw [show n + 1 + i = n + (i + 1) by omega]; exact hz, hr⟩) h2
      simp only [Op.eqFields, if_pos g4, Sem.run_bind, g1, g2, g3, Result.andThen_ok]
      cases u
      · simp
      · simp [ih]
    · cases h
  | _, [], _ :: _, _, _, _, hp, _, _, _ => by simp [plainFields] at hp
  | _, _ :: _, [], _, _, _, hp, _, _, _ => by simp [plainFields] at hp
  | _, [], [], _ :: _, _, _, _, _, _, h => by simp [cellsEq] at h
  | _, [], [], [], _ :: _, _, _, _, _, h => by simp [cellsEq] at h
  | _, _ :: _, _ :: _, [], _, _, _, _, _, h => by simp [cellsEq] at h
  | _, _ :: _, _ :: _, _ :: _, [], _, _, _, _, h => by simp [cellsEq] at h
theorem eqs_sound {T : TypeId} {ks : List Nat} {fs : Array Field} (h1 : P.stoodInHeld T = false) (h2 : P.eqGuardType P.depth T = false) (hu : P.underlying T = some (.struct fs)) (hp : plainFields P 0 ks fs.toList = true)
    (w : World) (x y : Operand) (Im : Nat → Prop) (as bs : List PV) (vs us : Array Value) (b : Bool) (ha : RP w Im (.agg as) (.agg vs)) (hb : RP w Im (.agg bs) (.agg us)) (h : cellsEq ks as bs = some b) :
    (do eqGuard .eql T x y (.agg vs) (.agg us); binOp .eql T (.agg vs) (.agg us)).run P w = .ok (.bool b) w ∧ (do eqGuard .neq T x y (.agg vs) (.agg us); binOp .neq T (.agg vs) (.agg us)).run P w = .ok (.bool !b) w := by
  have hfs : P.fieldsOf T = fs := by simp [Program.fieldsOf, hu]
  have key : (Op.equalIn 10000 T (.agg vs) (.agg us)).run P w = .ok b w := by
    rw [run_equalIn_agg w 9999 T vs us (by rw [hfs]; exact hu) h1, hfs]
    refine eqFields_sound (Im := Im) (d := 9998) hp ?_ ?_ h
    · intro i c hc
      cases ha with
      | agg _ _ hl _ hh =>
        have hi : i < vs.size := by rw [hl]; exact (List.getElem?_eq_some_iff.1 hc).1
        exact ⟨vs[i], by simp [hi], hh i c vs[i] hc (by simp [hi])⟩
    · intro i c hc
      cases hb with
      | agg _ _ hl _ hh =>
        have hi : i < us.size := by rw [hl]; exact (List.getElem?_eq_some_iff.1 hc).1
        exact ⟨us[i], by simp [hi], hh i c us[i] hc (by simp [hi])⟩
  constructor
  · simp [run_eqGuard_agg w _ T x y vs us h2, run_eql_struct, key]
  · simp [run_eqGuard_agg w _ T x y vs us h2, run_neq_struct, key]
theorem Tabs.sound {t : Tabs} (h : t.ok P = true) {live : List (Nat × List (Nat × List Nat))} {rk : List (Nat × List RK)} {bk : List (Nat × List (List Kind))} {plain : List (Nat × Unit)} {ct : List (Nat × CT)} {ak : List (Nat × List CT)} {own : List (Nat × List (Nat × List (Option Nat × Nat × Et × Nat)))} {cut : List (Nat × List (Nat × List Nat))} {nest : List (Nat × Kd)} {sorts : List (Nat × Nat)} (hS : ∀ g n, (g, n) ∈ sorts → SortOK P n g) : EnvOK P (t.env live rk bk plain ct ak own cut nest sorts) := by
  simp only [Tabs.ok, Bool.and_eq_true, List.all_eq_true] at h
  obtain ⟨⟨⟨⟨⟨⟨⟨⟨hmix, hsl⟩, hsh⟩, hfl⟩, hik⟩, hzr⟩, heqs⟩, hbl⟩, hst⟩ := h
  refine ⟨hmix, ?_, ?_, ?_, ?_, ?_, ?_, ?_, fun g n hg hn => ?_, ?_, ?_⟩
  rotate_left 7
  · have hg' : (lk sorts g).getD 0 = n := hg
    cases hl : lk sorts g with
    | none => rw [hl] at hg'; exact absurd hg'.symm hn
    | some m =>
      rw [hl] at hg'
      have e : m = n := hg'
      subst e
      exact hS g m (lk_mem hl)
  rotate_right 7
  · intro T e sh by_ hT
    have := hsl _ (lk_mem hT)
    simp only [Bool.and_eq_true, decide_eq_true_eq] at this
    obtain ⟨⟨⟨h1, h2⟩, h3⟩, h4⟩ := this
    split at h1
    · rename_i e' he
      simp at h1
      subst h1
      split at h2
      · rename_i i hi
        simp only [Bool.and_eq_true, beq_iff_eq] at h2
        split at h3
        · rename_i s hs
          simp at h3
          subst h3
          obtain ⟨⟨h5, h6⟩, h7⟩ := h2
          split at h7
          · rename_i z hz
            simp at h7
            exact ⟨he, ⟨i, z, hi, h5, h6, hz, h7⟩, hs, h4⟩
          · cases h7
        · cases h3
      · cases h2
    · cases h1
  · intro T hT
    have := hsh _ (lk_mem hT)
    simp only [Bool.and_eq_true] at this
    obtain ⟨h1, h2⟩ := this
    split at h2
    · rename_i i hi
      simp at h2
      split at h1
      · cases h1
      · cases h1
      · cases h1
      · rename_i d hn1 hn2 hd
        exact ⟨d, i, hd, fun fs e => hn1 fs e, fun n e' e => hn2 n e' e, hi, h2⟩
    · cases h2
  · intro T n hT
    have := hsh _ (lk_mem hT)
    simp only at this
    split at this
    · rename_i fs hu
      simp only [Bool.and_eq_true, List.all_eq_true] at this
      obtain ⟨h1, h2⟩ := this
      split at h1
      · rename_i i hi
        simp at h1
        exact ⟨fs, i, hu, hi, h1, fun fd hfd => Option.isSome_iff_exists.1 (h2 fd hfd)⟩
      · cases h1
    · cases this
  · intro T f off fsh hT
    simp only [Tabs.env] at hT
    split at hT
    · rename_i l hl
      split at hT
      · rename_i x hx
        subst hT
        have := hfl _ (lk_mem hl)
        simp only at this
        split at this
        · rename_i fs hu
          simp only [List.all_eq_true, List.mem_range] at this
          have := this f (List.getElem?_eq_some_iff.1 hx).1
          rw [hx] at this
          simp only at this
          split at this
          · rename_i fd hfd
            simp only [Bool.and_eq_true, beq_iff_eq] at this
            obtain ⟨h1, h2⟩ := this
            split at h2
            · rename_i i hi
              simp at h2
              exact ⟨fs, fd, i, hu, hfd, h1, hi, h2⟩
            · cases h2
          · cases this
        · cases this
      · cases hT
    · cases hT
  · intro T k hT
    have := hik _ (lk_mem hT)
    simp only at this
    split at this
    · rename_i k' hk
      simp at this
      subst this
      exact hk
    · cases this
  · intro T zs hT
    have := hzr _ (lk_mem hT)
    simp only [Bool.and_eq_true] at this
    obtain ⟨h1, h2⟩ := this
    split at h1
    · rename_i i hi
      split at h1
      · rename_i z hz
        split at h2
        · rename_i s hs
          simp at h2
          obtain ⟨g1, g2, g3⟩ := cellsOk_sound h1
          exact ⟨i, z, s, hi, hz, by simpa using g1, hs, h2, g2, fun j c y hc hy => g3 j c y hc (by simpa using hy)⟩
        · cases h2
      · cases h1
    · cases h1
  · intro T hT
    obtain ⟨u, hu⟩ := Option.isSome_iff_exists.1 hT
    have := hbl _ (lk_mem hu)
    simp only at this
    split at this
    · assumption
    · cases this
  · intro T hT
    obtain ⟨u, hu⟩ := Option.isSome_iff_exists.1 hT
    have := hst _ (lk_mem hu)
    simp only at this
    split at this
    · assumption
    · cases this
  · intro T ks hT w x y Im as bs vs us b ha hb hc
    have := heqs _ (lk_mem hT)
    simp only [Bool.and_eq_true, Bool.not_eq_true'] at this
    obtain ⟨⟨h1, h2⟩, h3⟩ := this
    split at h3
    · rename_i fs hu
      exact eqs_sound h1 h2 hu h3 w x y Im as bs vs us b ha hb hc
    · cases h3
end

theorem pfOK_nil {P : Program} : ∀ x ∈ ([] : List (Nat × Func)), P.funcs[x.1]? = some x.2 := by simp
theorem pfOK_cons {P : Program} {n : Nat} {fn : Func} {l : List (Nat × Func)} (h : P.funcs[n]? = some fn) (hl : ∀ x ∈ l, P.funcs[x.1]? = some x.2) : ∀ x ∈ (n, fn) :: l, P.funcs[x.1]? = some x.2 := by
  intro x hx
  rcases List.mem_cons.1 hx with rfl | hx
  · exact h
  · exact hl x hx
theorem pfOK_of {P : Program} {tab : List (Nat × Func)} (h : ∀ x ∈ tab, P.funcs[x.1]? = some x.2) (hn : (tab.all fun x => x.2.name != "runtime.NumGoroutine") = true) : PfOK P (lk tab) := by
  intro f fn hf
  have hm := lk_mem hf
  exact ⟨h _ hm, by have := List.all_eq_true.1 hn _ hm; simpa using this⟩
end Go.Dp
