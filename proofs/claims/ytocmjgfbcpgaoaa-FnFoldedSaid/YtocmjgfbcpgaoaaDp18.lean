/- Regions that draw their order. -/
import Derived.Test.YtocmjgfbcpgaoaaDp18c
set_option linter.unusedVariables false
set_option linter.unusedSimpArgs false
namespace Go.Dp
section
variable {P : Program} {E : Env} {w w' : World} {Im Im' : Nat → Prop} {ρ ρ' : Nat → Option Value} {o o' : List AObj} {r : List SV × List (List CV)} {t : List AV} {a : Act} {B : Base} {C : Ctx} {L : List Nat} {ops : Array Oper} {bs : List Nat} {lz : Bool} {late : Nat → Option Nat}

/-- What a quiet operation will yield whenever it is carried out. -/
def Prom (P : Program) (ops : Array Oper) (oo : Oper) (ids : List Nat) (v : AV) (t : List AV) (o : List AObj) : Prop :=
  ∀ o', AgreeO ids o o' → ∀ (w : World) (Im : Nat → Prop) (ρ : Nat → Option Value) (a : Act), SR w Im ρ o' → (∀ x ∈ looksT ops oo, RA w Im ρ o' (getT t x) (a.tmps.getD x undef)) →
    ∃ y, RA w Im ρ o' v y ∧ ((Region.wanted oo (yielded ops a.tmps) = true ∧ (execOp a.eval oo).run P w = .ok (.value y) w) ∨ (Region.wanted oo (yielded ops a.tmps) = false ∧ y = undef))
theorem aval_of (x : Operand) (h : ∀ i, x = .tmp i → RA w Im ρ o (getT t i) (a.tmps.getD i undef)) : RA w Im ρ o (aval t x) (a.eval x) := by
  cases x with
  | tmp i => exact h i rfl
  | const v =>
    simp only [aval, Act.eval]
    unfold constAV
    split
    · exact RP.int _ _
    · exact RP.bool _
    · exact RP.str _
    · exact RP.nil _ _ (by decide)
    · trivial
  | global g => trivial
  | func f => exact ⟨#[], rfl, rfl, fun i id h => by simp at h⟩
theorem looks_op {oo : Oper} {x : Operand} (h : x ∈ oo.op.operands.toList) {i : Nat} (hi : x = .tmp i) : i ∈ looksT ops oo := by
  subst hi
  exact List.mem_append_left _ (List.mem_filterMap.2 ⟨.tmp i, h, rfl⟩)
theorem stepQ (hE : EnvOK P C.E) {oo : Oper} (hq : quietO oo = true) (t : List AV) (o : List AObj) : (∀ K, stepOp C oo ⟨t, o⟩ K = none) ∨ ∃ v, (∀ K, stepOp C oo ⟨t, o⟩ K = K ⟨putD t oo.dst v, o⟩) ∧
    ∀ o', AgreeO (idsQ t oo.op) o o' → ∀ (w : World) (Im : Nat → Prop) (ρ : Nat → Option Value) (a : Act), SR w Im ρ o' → (∀ x ∈ oo.op.operands.toList, RA w Im ρ o' (aval t x) (a.eval x)) → ∃ y, RA w Im ρ o' v y ∧ (execOp a.eval oo).run P w = .ok (.value y) w := by
  unfold stepOp
  split
  · rename_i c x y hop
    rcases branch_par c t with h | ⟨b, hb, h⟩
    · left; intro K; exact h _
    · right
      refine ⟨aval t (bif b then x else y), fun K => h _, ?_⟩
      intro o' _ w Im ρ a hs av
      have hc := av c (by rw [hop]; simp [Op.operands])
      rw [hb] at hc
      have hc' : a.eval c = .bool b := RA.bool (a := .p (.bool b)) rfl hc
      refine ⟨if b = true then a.eval x else a.eval y, ?_, by simp [execOp, hop, hc', asBool]⟩
      cases b
      · exact av y (by rw [hop]; simp [Op.operands])
      · exact av x (by rw [hop]; simp [Op.operands])
  · rename_i c hop
    have hqs : silent oo.op = true := by unfold quietO at hq; rw [hop] at hq ⊢; exact hq
    have hnv : ∀ f, c.callee ≠ .value f := by intro f hf; rw [hop] at hqs; simp [silent, hf] at hqs
    split
    · rename_i f hf; exact absurd hf (hnv f)
    · rcases evOp_parQ (E := C.E) (t := t) (o := o) hqs with h | ⟨v, h⟩
      · left; intro K; exact h _
      · right
        refine ⟨v, fun K => h o (fun _ _ => rfl) _, ?_⟩
        intro o' hag w Im ρ a hs av
        classical
        obtain ⟨v2, y, hk, hr, hra⟩ := evOpQ_sound (K := fun v' _ => if v' = v then some ([], []) else none) (r := ([], [])) hE hs oo rfl av hqs ((h o' hag _).trans (by simp))
        have : v2 = v := by
          by_cases e : v2 = v
          · exact e
          · simp [e] at hk
        subst this
        exact ⟨y, hra, hr⟩
  · rename_i hnp hnc
    have hqs : silent oo.op = true := by
      unfold quietO at hq
      split at hq
      · rename_i c x y e; exact absurd e (hnp c x y)
      · exact hq
    rcases evOp_parQ (E := C.E) (t := t) (o := o) hqs with h | ⟨v, h⟩
    · left; intro K; exact h _
    · right
      refine ⟨v, fun K => h o (fun _ _ => rfl) _, ?_⟩
      intro o' hag w Im ρ a hs av
      classical
      obtain ⟨v2, y, hk, hr, hra⟩ := evOpQ_sound (K := fun v' _ => if v' = v then some ([], []) else none) (r := ([], [])) hE hs oo rfl av hqs ((h o' hag _).trans (by simp))
      have : v2 = v := by
        by_cases e : v2 = v
        · exact e
        · simp [e] at hk
      subst this
      exact ⟨y, hra, hr⟩
theorem guardQ (hE : EnvOK P C.E) {oo : Oper} (hq : quietO oo = true) (t : List AV) (o : List AObj) : (∀ K, guarded C ops oo ⟨t, o⟩ K = none) ∨ ∃ v, (∀ K, guarded C ops oo ⟨t, o⟩ K = K ⟨putD t oo.dst v, o⟩) ∧ Prom P ops oo (idsQ t oo.op) v t o := by
  unfold guarded
  split
  · rename_i hg
    rcases stepQ hE hq t o with h | ⟨v, h, hp⟩
    · exact .inl h
    · right
      refine ⟨v, h, fun o' hag w Im ρ a hs hra => ?_⟩
      obtain ⟨y, h1, h2⟩ := hp o' hag w Im ρ a hs (fun x hx => aval_of x fun i hi => hra i (looks_op hx hi))
      exact ⟨y, h1, .inl ⟨by simp [Region.wanted, hg], h2⟩⟩
  · rename_i j want hg
    split
    · rename_i d hd
      have hlk : d ∈ looksT ops oo := by
        unfold looksT
        rw [hg]
        refine List.mem_append_right _ ?_
        show d ∈ ((ops[j]?).bind (·.dst)).toList
        rw [hd]
        simp
      cases hsk : skipped (getT t d) with
      | true =>
        right
        exact ⟨.tup [], fun K => by simp, fun o' hag w Im ρ a hs hra => ⟨undef, RA_tup0, .inr ⟨skipped_wanted hg hd hsk (hra d hlk), rfl⟩⟩⟩
      | false =>
      simp only [cond_false]
      rcases branch_par (.tmp d) t with h | ⟨b, hb, h⟩
      · left; intro K; exact h _
      · have hb' : getT t d = .p (.bool b) := hb
        have want_of : ∀ (w : World) (Im : Nat → Prop) (ρ : Nat → Option Value) (o' : List AObj) (a : Act), RA w Im ρ o' (getT t d) (a.tmps.getD d undef) → Region.wanted oo (yielded ops a.tmps) = (b == want) := by
          intro w Im ρ o' a hgd
          rw [hb'] at hgd
          have hv : a.tmps.getD d undef = .bool b := RA.bool (a := .p (.bool b)) rfl hgd
          have hy : yielded ops a.tmps j = some b := by
            unfold yielded
            rw [hd]
            simp only [Option.bind_some]
            rw [Array.getD_eq_getD_getElem?] at hv
            cases hq : a.tmps[d]? with
            | none => rw [hq] at hv; simp [undef] at hv
            | some v => rw [hq] at hv; simp at hv; subst hv; rfl
          simp [Region.wanted, hg, hy]
        cases hw : b == want
        · right
          refine ⟨.tup [], fun K => by rw [h]; simp [hw], fun o' hag w Im ρ a hs hra => ⟨undef, RA_tup0, .inr ⟨?_, rfl⟩⟩⟩
          rw [want_of w Im ρ o' a (hra d hlk), hw]
        · rcases stepQ hE hq t o with h2 | ⟨v, h2, hp⟩
          · left; intro K; rw [h]; simp only [hw, cond_true]; exact h2 K
          · right
            refine ⟨v, fun K => by rw [h]; simp only [hw, cond_true]; exact h2 K, fun o' hag w Im ρ a hs hra => ?_⟩
            obtain ⟨y, h3, h4⟩ := hp o' hag w Im ρ a hs (fun x hx => aval_of x fun i hi => hra i (looks_op hx hi))
            exact ⟨y, h3, .inl ⟨by rw [want_of w Im ρ o' a (hra d hlk), hw], h4⟩⟩
    · left; intro K; rfl

theorem quietB_O {oo : Oper} (h : quietB ops oo = true) : quietO oo = true := by
  unfold quietB at h
  rw [Bool.and_eq_true] at h
  exact h.1
theorem lazyB_O {lz : Bool} {oo : Oper} (h : lazyB lz ops oo = true) (hl : lateO oo = false) : quietO oo = true := by
  unfold lazyB at h
  split at h
  · exact quietB_O h
  · rw [hl] at h
    simp only [Bool.false_and, Bool.or_false] at h
    exact quietB_O h
/-- What a creator will yield whenever it is carried out. -/
def PromL (P : Program) (ops : Array Oper) (oo : Oper) (ids : List Nat) (n : Nat) (v : AV) (t : List AV) (o : List AObj) : Prop :=
  ∀ o', AgreeO ids o o' → ∀ (w : World) (Im : Nat → Prop) (ρ : Nat → Option Value) (a : Act), SR w Im ρ o' → ρ n = none → (∀ x ∈ looksT ops oo, RA w Im ρ o' (getT t x) (a.tmps.getD x undef)) →
    ∃ y w' Im' ρ', Fill w Im ρ o' w' n Im' ρ' ∧ RA w' Im' ρ' o' v y ∧ Region.wanted oo (yielded ops a.tmps) = true ∧ (execOp a.eval oo).run P w = .ok (.value y) w'
theorem guardL (hE : EnvOK P C.E) {oo : Oper} (hq : lateO oo = true) (t : List AV) (o : List AObj) (hp : latePlain t oo.op = true) (hids : ∀ id ∈ idsOp t oo.op, id < o.length) : (∀ K, guarded C ops oo ⟨t, o⟩ K = none) ∨ ∃ v x, (∀ K, guarded C ops oo ⟨t, o⟩ K = K ⟨putD t oo.dst v, o ++ [x]⟩) ∧ PromL P ops oo (o.length :: idsOp t oo.op) o.length v t (o ++ [x]) := by
  have hg : oo.guard = none := by
    unfold lateO at hq
    rw [Bool.and_eq_true] at hq
    exact Option.isNone_iff_eq_none.1 hq.1
  rcases stepL (P := P) (ops := ops) hE hq t o hp hids with h | ⟨v, x, h, hf⟩
  · exact .inl h
  · right
    refine ⟨v, x, h, fun o' hag w Im ρ a hs hn hra => ?_⟩
    obtain ⟨y, w', Im', ρ', h1, h2, h3⟩ := hf o' hag w Im ρ a hs hn (fun z hz => aval_of z fun i hi => hra i (looks_op hz hi))
    exact ⟨y, w', Im', ρ', h1, h2, by simp [Region.wanted, hg], h3⟩
def PromX (P : Program) (ops : Array Oper) (oo : Oper) (ids : List Nat) (l : Option Nat) (ρ : Nat → Option Value) (v : AV) (t : List AV) (o : List AObj) : Prop :=
  match l with
  | none => Prom P ops oo ids v t o
  | some n => ρ n = none ∧ PromL P ops oo ids n v t o
theorem PromX.mono {oo : Oper} {ids : List Nat} {l : Option Nat} {v : AV} (hm : ∀ n, l = some n → ρ n = none → ρ' n = none) (h : PromX P ops oo ids l ρ v t o) : PromX P ops oo ids l ρ' v t o := by
  cases l with
  | none => exact h
  | some n => exact ⟨hm n rfl h.1, h.2⟩
theorem RA.compat (hi : ∀ b, Im b → Im' b ∧ w'.heap[b]? = w.heap[b]?) (hc : Compat ρ ρ' o o') {v : AV} {x : Value} (h : RA w Im ρ o v x) : RA w' Im' ρ' o' v x := by
  have hS : ∀ (v : SV) x, RS w Im ρ o v x → RS w' Im' ρ' o' v x := by
    intro v x hv
    cases v with
    | c c => exact RC.compat hi hc hv
    | agg cs => obtain ⟨vs, rfl, h1, h2, h3⟩ := hv; exact ⟨vs, rfl, h1, fun i c y a b => RC.compat hi hc (h2 i c y a b), h3⟩
  cases v with
  | s v => exact hS v x h
  | tup ts => obtain ⟨vs, rfl, h1, h2⟩ := h; exact ⟨vs, rfl, h1, fun i c y a b => hS c y (h2 i c y a b)⟩
theorem compat_push (x : AObj) : Compat ρ ρ o (o ++ [x]) := by
  intro id a ha
  have hlt := (List.getElem?_eq_some_iff.1 ha).1
  exact ⟨a, by rw [List.getElem?_append_left hlt]; exact ha, by cases a <;> simp [CompatO]⟩
theorem SR.push (hs : SR w Im ρ o) (x : AObj) : SR w Im ρ (o ++ [x]) := by
  refine ⟨fun id a v ha hv => ?_, hs.inj, fun id v hv => ⟨by have := (hs.lt id v hv).1; simp; omega, (hs.lt id v hv).2⟩, hs.im, fun id hd => ?_⟩
  · have hlt := (hs.lt id v hv).1
    rw [List.getElem?_append_left hlt] at ha
    exact RO.keep (fun b hb => ⟨hb, rfl⟩) (compat_push x) (fun _ _ => rfl) (fun _ _ h => h) (hs.ob id a v ha hv)
  · cases hr : ρ id with
    | none => rfl
    | some v =>
      have hlt := (hs.lt id v hr).1
      rw [List.getElem?_append_left hlt] at hd
      rw [hs.dd id hd] at hr
      cases hr
theorem SR.at_end (hs : SR w Im ρ o) : ρ o.length = none := by
  cases h : ρ o.length with
  | none => rfl
  | some u => have := (hs.lt _ u h).1; omega
theorem Now.push (h : Now B w Im ρ o) (x : AObj) : Now B w Im ρ (o ++ [x]) := ⟨h.wd, h.sr.push x, h.fr, h.ow, h.im, h.imn, fun j b hj => RB.compat (compat_push x) (h.hd j b hj)⟩
theorem Now.fill (h : Now B w Im ρ o) {n : Nat} (st : Fill w Im ρ o w' n Im' ρ') : Now B w' Im' ρ' o := by
  refine ⟨h.wd.trans st.wd, st.sr, ?_, ?_, ?_, ?_, fun j b hj => st.keep (.bptr j 0) _ (h.hd j b hj)⟩
  · intro b hb hd
    rw [st.fr b (Nat.lt_of_lt_of_le hb h.wd.size), h.fr b hb hd]
  · rintro b ⟨id, v, hv, hb⟩
    rcases st.ow id v b hv hb with h1 | h1
    · exact .inl (Nat.le_trans h.wd.size h1)
    · exact h.ow b h1
  · intro b hb
    have h1 := h.im b hb
    have h2 := st.im b h1.1
    exact ⟨h2.1, h2.2.trans h1.2⟩
  · intro b hb
    rcases st.imn b hb with h1 | h1
    · exact h.imn b h1
    · exact .inr (.inl (Nat.le_trans h.wd.size h1))
/-! ### What is checked of the region -/
theorem all_zip {p : Oper × Nat → Bool} (h : ops.toList.zipIdx.all p = true) {i : Nat} {oo : Oper} (hi : ops[i]? = some oo) : p (oo, i) = true := by
  rw [List.all_eq_true] at h
  refine h (oo, i) ?_
  rw [List.mem_iff_getElem?]
  exact ⟨i, by rw [List.getElem?_zipIdx, Array.getElem?_toList, hi]; simp⟩
theorem fold_bits {bs : List Nat} {k : Nat} : ∀ (l : List Nat) (s : Nat), (l.foldl (fun s e => s ||| 2 ^ e ||| bitsOf bs e) s).testBit k = true → s.testBit k = true ∨ ∃ e ∈ l, k = e ∨ (bitsOf bs e).testBit k = true
  | [], s, h => .inl h
  | e :: l, s, h => by
    rw [List.foldl_cons] at h
    rcases fold_bits l _ h with h1 | ⟨e', h1, h2⟩
    · simp only [Nat.testBit_or, Bool.or_eq_true, Nat.testBit_two_pow, decide_eq_true_eq] at h1
      rcases h1 with (h1 | h1) | h1
      · exact .inl h1
      · exact .inr ⟨e, by simp, .inl h1.symm⟩
      · exact .inr ⟨e, by simp, .inr h1⟩
    · exact .inr ⟨e', by simp [h1], h2⟩
theorem closed_bits (h : closedOk ops bs = true) {i k : Nat} {oo : Oper} (hi : ops[i]? = some oo) (hk : (bitsOf bs i).testBit k = true) : ∃ e ∈ bindsOn oo, k = e ∨ (bitsOf bs e).testBit k = true := by
  have := all_zip h hi
  simp only [beq_iff_eq] at this
  rw [this] at hk
  rcases fold_bits _ _ hk with h1 | h1
  · simp at h1
  · exact h1
structure Slots (lz : Bool) (ops : Array Oper) (bs : List Nat) : Prop where
  own : ∀ (i d : Nat) (oi : Oper), ops[i]? = some oi → oi.dst = some d → lazyB lz ops oi = true → d ∉ looksT ops oi
  two : ∀ (i j d : Nat) (oi oj : Oper), ops[i]? = some oi → ops[j]? = some oj → oi.dst = some d → i ≠ j → oj.dst ≠ some d
  see : ∀ (i j d : Nat) (oi oj : Oper), ops[i]? = some oi → ops[j]? = some oj → oi.dst = some d → i ≠ j → d ∈ looksT ops oj → (bitsOf bs j).testBit i = true ∨ (lazyB lz ops oi = false ∧ (lazyB lz ops oj = false ∨ (bitsOf bs i).testBit j = true))
theorem slots_of (h : slotsOk lz ops bs = true) : Slots lz ops bs := by
  have key : ∀ (i d : Nat) (oi : Oper), ops[i]? = some oi → oi.dst = some d → (!lazyB lz ops oi || !(looksT ops oi).contains d) = true ∧ ∀ (j : Nat) (oj : Oper), ops[j]? = some oj → i ≠ j →
      (oj.dst != some d) = true ∧ ((!(looksT ops oj).contains d || (bitsOf bs j).testBit i || !lazyB lz ops oi && (!lazyB lz ops oj || (bitsOf bs i).testBit j)) = true) := by
    intro i d oi hi hd
    have h1 := all_zip h hi
    simp only [hd] at h1
    rw [Bool.and_eq_true] at h1
    refine ⟨h1.1, fun j oj hj hne => ?_⟩
    have h2 := all_zip h1.2 hj
    simp only [Bool.or_eq_true, beq_iff_eq] at h2
    rcases h2 with h2 | h2
    · exact absurd h2 hne
    · rw [Bool.and_eq_true] at h2
      exact h2
  refine ⟨fun i d oi hi hd hq hm => ?_, fun i j d oi oj hi hj hd hne hd2 => ?_, fun i j d oi oj hi hj hd hne hm => ?_⟩
  · have := (key i d oi hi hd).1
    simp [hq, hm] at this
  · have := ((key i d oi hi hd).2 j oj hj hne).1
    simp [hd2] at this
  · have := ((key i d oi hi hd).2 j oj hj hne).2
    simp [hm] at this
    rcases this with h1 | h1
    · exact .inl h1
    · exact .inr h1

/-! ### All orders -/
def Ls (listed : Array Bool) (i : Nat) : Prop := listed.getD i false = true
/-- What holds of a region half done: 'done' are those that the evaluator has done, in its order; those of them that the machine has not are quiet. -/
structure Sim (lz : Bool) (late : Nat → Option Nat) (P : Program) (C : Ctx) (B : Base) (ops : Array Oper) (bs : List Nat) (K : St → R) (r : List SV × List (List CV)) (done : Nat) (rest : List Nat) (early : List (Nat × List Nat)) (s : St) (listed : Array Bool) (a : Act) (w : World) (Im : Nat → Prop) (ρ : Nat → Option Value) : Prop where
  ev : evDr lz C ops bs early rest s K = some r
  line : lineOk lz ops bs done rest = true
  sz : listed.size = ops.size
  sub : ∀ i, Ls listed i → done.testBit i = true
  lsb : ∀ e k, Ls listed e → (bitsOf bs e).testBit k = true → Ls listed k
  dnb : ∀ e k, done.testBit e = true → (bitsOf bs e).testBit k = true → done.testBit k = true
  acts : ∀ (i : Nat) (oo : Oper), done.testBit i = true → ops[i]? = some oo → lazyB lz ops oo = false → Ls listed i
  all : ∀ i, i < ops.size → done.testBit i = true ∨ i ∈ rest
  now : Now B w Im ρ s.o
  tsz : a.tmps.size = s.t.length
  slots : ∀ d, (∀ (p : Nat) (oo : Oper), done.testBit p = true → ¬ Ls listed p → ops[p]? = some oo → oo.dst ≠ some d) → RA w Im ρ s.o (getT s.t d) (a.tmps.getD d undef)
  prom : ∀ (p : Nat) (oo : Oper), done.testBit p = true → ¬ Ls listed p → ops[p]? = some oo → ∃ ids v t0 o0, (p, ids) ∈ early ∧ AgreeT (looksT ops oo) t0 s.t ∧ AgreeO ids o0 s.o ∧ PromX P ops oo ids (late p) ρ v t0 o0 ∧ ∀ d, oo.dst = some d → getT s.t d = v ∨ getT s.t d = .undef
  df : a.defers = []
  linj : ∀ p q n, late p = some n → late q = some n → p = q
  llt : ∀ p n, late p = some n → n < s.o.length
theorem AgreeO.trans {ids : List Nat} {o1 o2 o3 : List AObj} (h : AgreeO ids o1 o2) (k : AgreeO ids o2 o3) : AgreeO ids o1 o3 := fun id hid => (h id hid).trans (k id hid)
theorem getT_put {t : List AV} {dst : Option Tmp} {v : AV} {d : Nat} (h : dst ≠ some d) : getT (putD t dst v) d = getT t d := by
  cases dst with
  | none => rfl
  | some e =>
    simp only [putD]
    rw [getT_set, if_neg]
    rintro ⟨rfl, _⟩
    exact h rfl
theorem getT_put_same {t : List AV} {d : Nat} {v : AV} : getT (putD t (some d) v) d = v ∨ getT (putD t (some d) v) d = .undef := by
  simp only [putD]
  rw [getT_set]
  split
  · exact .inl rfl
  · rename_i h
    right
    unfold getT
    rw [List.getElem?_eq_none (by omega)]
    rfl
theorem len_putD {t : List AV} {dst : Option Tmp} {v : AV} : (putD t dst v).length = t.length := by cases dst <;> simp [putD]
theorem size_put {dst : Option Tmp} {y : Value} : (a.put dst y).tmps.size = a.tmps.size := by cases dst <;> simp [Act.put]
theorem tmps_put {dst : Option Tmp} {y : Value} {d : Nat} (h : dst ≠ some d) : (a.put dst y).tmps.getD d undef = a.tmps.getD d undef := by
  cases dst with
  | none => rfl
  | some e =>
    simp only [Act.put]
    rw [getD_set, if_neg]
    rintro ⟨rfl, _⟩
    exact h rfl
theorem ls_set {listed : Array Bool} {i j : Nat} : Ls (listed.setIfInBounds i true) j ↔ Ls listed j ∨ (i = j ∧ i < listed.size) := by
  unfold Ls
  simp only [Array.getD_eq_getD_getElem?, Array.getElem?_setIfInBounds]
  by_cases h : i = j
  · subst h
    by_cases h2 : i < listed.size <;> simp [h2]
  · simp [h]
theorem bit_or {x i j : Nat} : (x ||| 2 ^ i).testBit j = true ↔ x.testBit j = true ∨ i = j := by simp [Nat.testBit_or, Nat.testBit_two_pow]
theorem binds_ready {oo : Oper} {listed : Array Bool} (h : ∀ e ∈ oo.after, Region.binds .any e = true → listed.getD e.on false = true) : ∀ j ∈ bindsOn oo, Ls listed j := by
  intro j hj
  unfold bindsOn at hj
  obtain ⟨e, he, h2⟩ := List.mem_filterMap.1 hj
  cases hb : Region.binds .any e
  · rw [hb] at h2; simp at h2
  · rw [hb] at h2
    simp at h2
    subst h2
    exact h e (by simpa using he) hb

section
variable {K : St → R} {done : Nat} {rest : List Nat} {early : List (Nat × List Nat)} {s : St} {listed : Array Bool}
theorem ready_bits (hcl : closedOk ops bs = true) (h : Sim lz late P C B ops bs K r done rest early s listed a w Im ρ) {i : Nat} {oo : Oper} (hi : ops[i]? = some oo) (hr : ∀ j ∈ bindsOn oo, Ls listed j) {k : Nat} (hk : (bitsOf bs i).testBit k = true) : Ls listed k := by
  obtain ⟨e, he, h1⟩ := closed_bits hcl hi hk
  rcases h1 with rfl | h1
  · exact hr _ he
  · exact h.lsb e k (hr e he) h1
/-- The slots that a ready operation looks at are as the evaluator has them. -/
theorem ready_slots (hcl : closedOk ops bs = true) (hsl : Slots lz ops bs) (h : Sim lz late P C B ops bs K r done rest early s listed a w Im ρ) {i : Nat} {oo : Oper} (hi : ops[i]? = some oo) (hr : ∀ j ∈ bindsOn oo, Ls listed j) (hq : lazyB lz ops oo = true ∨ ¬ done.testBit i = true) :
    ∀ x ∈ looksT ops oo, RA w Im ρ s.o (getT s.t x) (a.tmps.getD x undef) := by
  intro x hx
  refine h.slots x fun p op hp hnl hop hd => ?_
  have hpq : lazyB lz ops op = true := by
    cases hq2 : lazyB lz ops op
    · exact absurd (h.acts p op hp hop hq2) hnl
    · rfl
  by_cases e : p = i
  · subst e
    rw [hi] at hop
    injection hop with hop
    subst hop
    rcases hq with hq | hq
    · exact hsl.own p x _ hi hd hq hx
    · exact hq hp
  · rcases hsl.see p i x op oo hop hi hd e hx with h1 | ⟨h1, _⟩
    · exact hnl (ready_bits hcl h hi hr h1)
    · rw [hpq] at h1; cases h1
/-- The evaluator does one more, ahead of the machine. -/
theorem sim_quiet (hE : EnvOK P C.E) (hcl : closedOk ops bs = true) (hsl : Slots lz ops bs) {k : Nat} (h : Sim lz late P C B ops bs K r done (k :: rest) early s listed a w Im ρ) {ok : Oper} (hk : ops[k]? = some ok) (hq : lazyB lz ops ok = true) :
    ∃ late' early' s', Sim lz late' P C B ops bs K r (done ||| 2 ^ k) rest early' s' listed a w Im ρ := by
  have hev := h.ev
  have hline := h.line
  simp only [lineOk, hk, Bool.and_eq_true, Bool.not_eq_true', List.all_eq_true] at hline
  obtain ⟨⟨⟨hnd, hbd⟩, _⟩, hline⟩ := hline
  have hnk : ¬ done.testBit k = true := by rw [hnd]; simp
  have hnl : ¬ Ls listed k := fun hl => hnk (h.sub k hl)
  have dnb' : ∀ e j, (done ||| 2 ^ k).testBit e = true → (bitsOf bs e).testBit j = true → (done ||| 2 ^ k).testBit j = true := by
    intro e j he hj
    rcases bit_or.1 he with he | rfl
    · exact bit_or.2 (.inl (h.dnb e j he hj))
    · obtain ⟨e', h1, h2⟩ := closed_bits hcl hk hj
      rcases h2 with rfl | h2
      · exact bit_or.2 (.inl (hbd _ h1))
      · exact bit_or.2 (.inl (h.dnb e' j (hbd _ h1) h2))
  have acts' : ∀ (i : Nat) (oo : Oper), (done ||| 2 ^ k).testBit i = true → ops[i]? = some oo → lazyB lz ops oo = false → Ls listed i := by
    intro i oo hi hoo hqq
    rcases bit_or.1 hi with hi | rfl
    · exact h.acts i oo hi hoo hqq
    · rw [hk] at hoo; injection hoo with hoo; subst hoo; rw [hq] at hqq; cases hqq
  have all' : ∀ i, i < ops.size → (done ||| 2 ^ k).testBit i = true ∨ i ∈ rest := by
    intro i hi
    rcases h.all i hi with h1 | h1
    · exact .inl (bit_or.2 (.inl h1))
    · rcases List.mem_cons.1 h1 with rfl | h1
      · exact .inl (bit_or.2 (.inr rfl))
      · exact .inr h1
  have old : ∀ (p : Nat) (oo : Oper), p ≠ k → done.testBit p = true → ops[p]? = some oo → ∀ v, (∀ x ∈ looksT ops oo, getT (putD s.t ok.dst v) x = getT s.t x) ∧ ∀ d, oo.dst = some d → getT (putD s.t ok.dst v) d = getT s.t d := by
    intro p oo hpk hp hoo v
    refine ⟨fun x hx => getT_put fun hd => ?_, fun d hd => getT_put (hsl.two p k d oo ok hoo hk hd hpk)⟩
    rcases hsl.see k p x ok oo hk hoo hd (Ne.symm hpk) hx with h6 | ⟨h6, _⟩
    · exact hnk (h.dnb p k hp h6)
    · rw [hq] at h6; cases h6
  cases hlo : lateO ok
  · simp only [evDr, hk, hq, hlo] at hev
    rcases guardQ (P := P) hE (lazyB_O hq hlo) s.t s.o with h0 | ⟨v, h0, hprom⟩
    · rw [h0] at hev; cases hev
    · rw [h0] at hev
      refine ⟨fun p => if p = k then none else late p, _, ⟨putD s.t ok.dst v, s.o⟩, hev, hline, h.sz, fun i hi => bit_or.2 (.inl (h.sub i hi)), h.lsb, dnb', acts', all', h.now, by rw [h.tsz]; exact len_putD.symm, ?_, ?_, h.df, ?_, ?_⟩
      · intro d hd
        have hdk : ok.dst ≠ some d := hd k ok (bit_or.2 (.inr rfl)) hnl hk
        rw [getT_put hdk]
        exact h.slots d fun p oo hp hl hoo => hd p oo (bit_or.2 (.inl hp)) hl hoo
      · intro p oo hp hl hoo
        by_cases hpk : p = k
        · subst hpk
          rw [hk] at hoo
          injection hoo with hoo
          subst hoo
          refine ⟨_, v, s.t, s.o, List.mem_cons_self, fun x hx => ?_, fun _ _ => rfl, by rw [if_pos rfl]; exact hprom, fun d hd => ?_⟩
          · rw [getT_put fun hd => hsl.own p x ok hk hd hq hx]
          · rw [hd]; exact getT_put_same
        · rcases bit_or.1 hp with hp | hp
          · obtain ⟨ids, u, t0, o0, h1, h2, h3, h4, h5⟩ := h.prom p oo hp hl hoo
            have ho := old p oo hpk hp hoo v
            refine ⟨ids, u, t0, o0, List.mem_cons_of_mem _ h1, fun x hx => by rw [ho.1 x hx]; exact h2 x hx, h3, by rw [if_neg hpk]; exact h4, fun d hd => by rw [ho.2 d hd]; exact h5 d hd⟩
          · exact absurd hp.symm hpk
      · intro p q n hp hq
        by_cases hpk : p = k
        · rw [if_pos hpk] at hp; cases hp
        · by_cases hqk : q = k
          · rw [if_pos hqk] at hq; cases hq
          · rw [if_neg hpk] at hp; rw [if_neg hqk] at hq; exact h.linj p q n hp hq
      · intro p n hp
        by_cases hpk : p = k
        · rw [if_pos hpk] at hp; cases hp
        · rw [if_neg hpk] at hp; exact h.llt p n hp
  · simp only [evDr, hk, hq, hlo] at hev
    obtain ⟨hchk, hev⟩ := bif_some hev
    simp only [Bool.and_eq_true, List.all_eq_true, decide_eq_true_eq] at hchk
    obtain ⟨⟨hpl, hids⟩, herl⟩ := hchk
    rcases guardL (P := P) (ops := ops) hE hlo s.t s.o hpl hids with h0 | ⟨v, x, h0, hprom⟩
    · rw [h0] at hev; cases hev
    · rw [h0] at hev
      refine ⟨fun p => if p = k then some s.o.length else late p, _, ⟨putD s.t ok.dst v, s.o ++ [x]⟩, hev, hline, h.sz, fun i hi => bit_or.2 (.inl (h.sub i hi)), h.lsb, dnb', acts', all', h.now.push x, by rw [h.tsz]; exact len_putD.symm, ?_, ?_, h.df, ?_, ?_⟩
      · intro d hd
        have hdk : ok.dst ≠ some d := hd k ok (bit_or.2 (.inr rfl)) hnl hk
        rw [getT_put hdk]
        exact RA.compat (fun b hb => ⟨hb, rfl⟩) (compat_push x) (h.slots d fun p oo hp hl hoo => hd p oo (bit_or.2 (.inl hp)) hl hoo)
      · intro p oo hp hl hoo
        by_cases hpk : p = k
        · subst hpk
          rw [hk] at hoo
          injection hoo with hoo
          subst hoo
          refine ⟨_, v, s.t, _, List.mem_cons_self, fun x hx => ?_, fun _ _ => rfl, by rw [if_pos rfl]; exact ⟨h.now.sr.at_end, hprom⟩, fun d hd => ?_⟩
          · rw [getT_put fun hd => hsl.own p x ok hk hd hq hx]
          · rw [hd]; exact getT_put_same
        · rcases bit_or.1 hp with hp | hp
          · obtain ⟨ids, u, t0, o0, h1, h2, h3, h4, h5⟩ := h.prom p oo hp hl hoo
            have ho := old p oo hpk hp hoo v
            refine ⟨ids, u, t0, o0, List.mem_cons_of_mem _ h1, fun x hx => by rw [ho.1 x hx]; exact h2 x hx, h3.trans fun id hid => ?_, by rw [if_neg hpk]; exact h4, fun d hd => by rw [ho.2 d hd]; exact h5 d hd⟩
            have := herl (p, ids) h1 id hid
            simp only [at', List.getElem?_append_left this]
          · exact absurd hp.symm hpk
      · intro p q n hp hq
        by_cases hpk : p = k
        · by_cases hqk : q = k
          · rw [hpk, hqk]
          · rw [if_pos hpk] at hp; rw [if_neg hqk] at hq
            injection hp with hp
            have := h.llt q n hq
            omega
        · by_cases hqk : q = k
          · rw [if_pos hqk] at hq; rw [if_neg hpk] at hp
            injection hq with hq
            have := h.llt p n hp
            omega
          · rw [if_neg hpk] at hp; rw [if_neg hqk] at hq; exact h.linj p q n hp hq
      · intro p n hp
        by_cases hpk : p = k
        · rw [if_pos hpk] at hp; injection hp with hp; simp; omega
        · rw [if_neg hpk] at hp
          have := h.llt p n hp
          simp
          omega
/-- The machine does one that the evaluator has done. -/
theorem sim_pend {Q : Exit → Act → World → Prop} (hcl : closedOk ops bs = true) (hsl : Slots lz ops bs) (h : Sim lz late P C B ops bs K r done rest early s listed a w Im ρ) {i : Nat} {oo : Oper} (hi : ops[i]? = some oo) (hr : ∀ j ∈ bindsOn oo, Ls listed j) (hd : done.testBit i = true) (hl : ¬ Ls listed i)
    {next : Act → World → Prop} (hn : ∀ a' w' Im' ρ', Sim lz late P C B ops bs K r done rest early s (listed.setIfInBounds i true) a' w' Im' ρ' → next a' w') : wpOp P ops Q i next a w := by
  have hq : lazyB lz ops oo = true := by
    cases hq2 : lazyB lz ops oo
    · exact absurd (h.acts i oo hd hi hq2) hl
    · rfl
  obtain ⟨ids, v, t0, o0, h1, h2, h3, h4, h5⟩ := h.prom i oo hd hl hi
  have hlook := ready_slots hcl hsl h hi hr (.inl hq)
  obtain ⟨y, w', Im', ρ', hnow, hkeep, hne, hy, hrun⟩ : ∃ y w' Im' ρ', Now B w' Im' ρ' s.o ∧ (∀ v x, RA w Im ρ s.o v x → RA w' Im' ρ' s.o v x) ∧ (∀ p m, p ≠ i → late p = some m → ρ m = none → ρ' m = none) ∧ RA w' Im' ρ' s.o v y ∧
      ((Region.wanted oo (yielded ops a.tmps) = true ∧ (execOp a.eval oo).run P w = .ok (.value y) w') ∨ (Region.wanted oo (yielded ops a.tmps) = false ∧ y = undef ∧ w' = w)) := by
    cases hlate : late i with
    | none =>
      rw [hlate] at h4
      obtain ⟨y, hy, hrun⟩ := h4 s.o h3 w Im ρ a h.now.sr fun x hx => by rw [h2 x hx]; exact hlook x hx
      exact ⟨y, w, Im, ρ, h.now, fun _ _ h => h, fun _ _ _ _ h => h, hy, hrun.imp (fun h => h) fun h => ⟨h.1, h.2, rfl⟩⟩
    | some n =>
      rw [hlate] at h4
      obtain ⟨y, w', Im', ρ', hf, hy, hw, hrun⟩ := h4.2 s.o h3 w Im ρ a h.now.sr h4.1 fun x hx => by rw [h2 x hx]; exact hlook x hx
      refine ⟨y, w', Im', ρ', h.now.fill hf, hf.keepA, fun p m hp hm h0 => ?_, hy, .inl ⟨hw, hrun⟩⟩
      rw [hf.ne m fun e => hp (h.linj p i n (e ▸ hm) hlate)]
      exact h0
  have hil : i < listed.size := by rw [h.sz]; exact (Array.getElem?_eq_some_iff.1 hi).1
  have sim' : Sim lz late P C B ops bs K r done rest early s (listed.setIfInBounds i true) (a.put oo.dst y) w' Im' ρ' := by
    refine ⟨h.ev, h.line, by simp [h.sz], ?_, ?_, h.dnb, ?_, h.all, hnow, by rw [size_put]; exact h.tsz, ?_, ?_, ?_, h.linj, h.llt⟩
    · intro j hj
      rcases ls_set.1 hj with hj | ⟨rfl, _⟩
      · exact h.sub j hj
      · exact hd
    · intro e k he hk
      rcases ls_set.1 he with he | ⟨rfl, _⟩
      · exact ls_set.2 (.inl (h.lsb e k he hk))
      · exact ls_set.2 (.inl (ready_bits hcl h hi hr hk))
    · intro j oj hj hoj hqj
      exact ls_set.2 (.inl (h.acts j oj hj hoj hqj))
    · intro d hdd
      by_cases e : oo.dst = some d
      · have hv := h5 d e
        have hval : (a.put oo.dst y).tmps.getD d undef = if d < a.tmps.size then y else undef := by
          rw [e]
          simp only [Act.put]
          rw [getD_set]
          by_cases hlt : d < a.tmps.size
          · rw [if_pos ⟨rfl, hlt⟩, if_pos hlt]
          · rw [if_neg (fun h => hlt h.2), if_neg hlt, Array.getD_eq_getD_getElem?, Array.getElem?_eq_none (Nat.le_of_not_lt hlt)]
            rfl
        by_cases hlt : d < a.tmps.size
        · rw [hval, if_pos hlt]
          rcases hv with hv | hv
          · rw [hv]; exact hy
          · rw [hv]; trivial
        · have : getT s.t d = .undef := by
            unfold getT
            rw [List.getElem?_eq_none (by rw [← h.tsz]; exact Nat.le_of_not_lt hlt)]
            rfl
          rw [this]
          trivial
      · rw [tmps_put e]
        refine hkeep _ _ (h.slots d fun p op hp hnl hop hpd => ?_)
        refine hdd p op hp (fun hls => ?_) hop hpd
        rcases ls_set.1 hls with hls | ⟨rfl, _⟩
        · exact hnl hls
        · rw [hi] at hop; injection hop with hop; subst hop; exact e hpd
    · intro p op hp hnl hop
      obtain ⟨ids', u', t1, o1, g1, g2, g3, g4, g5⟩ := h.prom p op hp (fun hls => hnl (ls_set.2 (.inl hls))) hop
      exact ⟨ids', u', t1, o1, g1, g2, g3, g4.mono fun m hm h0 => hne p m (fun e => hnl (ls_set.2 (.inr ⟨e.symm, hil⟩))) hm h0, g5⟩
    · cases oo.dst <;> exact h.df
  unfold wpOp
  simp only [hi]
  rcases hrun with ⟨hw, hrun⟩ | ⟨hw, rfl, rfl⟩
  · rw [if_pos hw]
    left
    unfold Oper.wp
    rw [hrun]
    exact hn _ _ _ _ sim'
  · rw [hw]
    simp only [Bool.false_eq_true, if_false]
    exact hn _ _ _ _ sim'
/-- Both do one that acts. -/
theorem sim_act (hE : EnvOK P C.E) (hC : ∀ g args bs r, C.call g args bs = some r → Contract P g args bs r) {Q : Exit → Act → World → Prop} (hcl : closedOk ops bs = true) (hsl : Slots lz ops bs) {i : Nat} (h : Sim lz late P C B ops bs K r done (i :: rest) early s listed a w Im ρ) {oo : Oper} (hi : ops[i]? = some oo)
    (hr : ∀ j ∈ bindsOn oo, Ls listed j) (hq : lazyB lz ops oo = false)
    {next : Act → World → Prop} (hn : ∀ s' a' w' Im' ρ', Sim lz late P C B ops bs K r (done ||| 2 ^ i) rest early s' (listed.setIfInBounds i true) a' w' Im' ρ' → next a' w') : wpOp P ops Q i next a w := by
  have hev := h.ev
  simp only [evDr, hi, hq] at hev
  obtain ⟨hchk, hev⟩ := bif_some hev
  simp only [List.all_eq_true, Bool.or_eq_true, Bool.and_eq_true, Bool.not_eq_true', decide_eq_true_eq] at hchk
  have hline := h.line
  simp only [lineOk, hi, hq, Bool.and_eq_true, Bool.not_eq_true', List.all_eq_true, Bool.false_or] at hline
  obtain ⟨⟨⟨hnd, hbd⟩, _⟩, hline⟩ := hline
  have hnk : ¬ done.testBit i = true := by rw [hnd]; simp
  have hil : i < listed.size := by rw [h.sz]; exact (Array.getElem?_eq_some_iff.1 hi).1
  have hlook := ready_slots hcl hsl h hi hr (.inr hnk)
  rcases guarded_keeps (C := C) (ops := ops) oo s with h0 | ⟨v, o', h0, hkp⟩
  · rw [h0] at hev; cases hev
  · rw [h0] at hev
    classical
    refine guarded_sound (K := fun s' => if s'.t = putD s.t oo.dst v ∧ s'.o = o' then evDr lz C ops bs early rest ⟨putD s.t oo.dst v, o'⟩ K else none) hE hC hi h.now.sr (fun x hx => aval_of x fun j hj => hlook j (looks_op hx hj)) ?_ (by
      refine (h0 _).trans ?_
      simp only [and_self, if_true]
      exact hev) ?_
    · intro j want d hg hd
      refine hlook d ?_
      unfold looksT
      rw [hg]
      refine List.mem_append_right _ ?_
      show d ∈ ((ops[j]?).bind (·.dst)).toList
      rw [hd]
      simp
    · intro v2 o2 y w' Im' ρ' hk hst hra
      simp only at hk
      split at hk
      · rename_i he
        obtain ⟨he1, he2⟩ := he
        subst he2
        have hpend : ∀ (p : Nat), (done ||| 2 ^ i).testBit p = true → ¬ Ls (listed.setIfInBounds i true) p → done.testBit p = true ∧ ¬ Ls listed p ∧ p ≠ i := by
          intro p hp hnl
          rcases bit_or.1 hp with hp | rfl
          · exact ⟨hp, fun hl => hnl (ls_set.2 (.inl hl)), fun e => hnk (e ▸ hp)⟩
          · exact absurd (ls_set.2 (.inr ⟨rfl, hil⟩)) hnl
        refine hn ⟨putD s.t oo.dst v, o2⟩ (a.put oo.dst y) w' Im' ρ' ⟨hk, hline, by simp [h.sz], ?_, ?_, ?_, ?_, ?_, h.now.step hst, by rw [size_put, h.tsz]; exact len_putD.symm, ?_, ?_, by cases oo.dst <;> exact h.df, h.linj, fun p m hm => Nat.lt_of_lt_of_le (h.llt p m hm) hkp.1⟩
        · intro j hj
          rcases ls_set.1 hj with hj | ⟨rfl, _⟩
          · exact bit_or.2 (.inl (h.sub j hj))
          · exact bit_or.2 (.inr rfl)
        · intro e k he hk
          rcases ls_set.1 he with he | ⟨rfl, _⟩
          · exact ls_set.2 (.inl (h.lsb e k he hk))
          · exact ls_set.2 (.inl (ready_bits hcl h hi hr hk))
        · intro e j he hj
          rcases bit_or.1 he with he | rfl
          · exact bit_or.2 (.inl (h.dnb e j he hj))
          · exact bit_or.2 (.inl (h.sub j (ready_bits hcl h hi hr hj)))
        · intro j oj hj hoj hqj
          rcases bit_or.1 hj with hj | rfl
          · exact ls_set.2 (.inl (h.acts j oj hj hoj hqj))
          · exact ls_set.2 (.inr ⟨rfl, hil⟩)
        · intro j hj
          rcases h.all j hj with h1 | h1
          · exact .inl (bit_or.2 (.inl h1))
          · rcases List.mem_cons.1 h1 with rfl | h1
            · exact .inl (bit_or.2 (.inr rfl))
            · exact .inr h1
        · intro d hd
          rw [← he1]
          by_cases e : oo.dst = some d
          · rw [e]
            simp only [putD, Act.put]
            rw [getT_set, getD_set, h.tsz]
            by_cases hlt : d < s.t.length
            · rw [if_pos ⟨rfl, hlt⟩, if_pos ⟨rfl, hlt⟩]; exact hra
            · rw [if_neg (fun h => hlt h.2)]
              have : getT s.t d = .undef := by
                unfold getT
                rw [List.getElem?_eq_none (Nat.le_of_not_lt hlt)]
                rfl
              rw [this]
              trivial
          · rw [getT_put e, tmps_put e]
            refine hst.keepA _ _ (h.slots d fun p op hp hnl hop => hd p op (bit_or.2 (.inl hp)) (fun hls => ?_) hop)
            rcases ls_set.1 hls with hls | ⟨rfl, _⟩
            · exact hnl hls
            · exact hnk hp
        · intro p op hp hnl hop
          obtain ⟨hpd, hpl, hpi⟩ := hpend p hp hnl
          obtain ⟨ids, u, t0, o0, h1, h2, h3, h4, h5⟩ := h.prom p op hpd hpl hop
          have hpq : lazyB lz ops op = true := by
            cases hq2 : lazyB lz ops op
            · exact absurd (h.acts p op hpd hop hq2) hpl
            · rfl
          refine ⟨ids, u, t0, o0, h1, fun x hx => ?_, h3.trans fun id hid => ?_, h4.mono fun m hm h0 => hst.gr.2 m (h.llt p m hm) h0, fun d hd => ?_⟩
          · have : oo.dst ≠ some x := by
              intro hd
              rcases hsl.see i p x oo op hi hop hd (Ne.symm hpi) hx with h6 | ⟨_, h6 | h6⟩
              · exact hnk (h.dnb p i hpd h6)
              · rw [hpq] at h6; cases h6
              · exact hpl (ready_bits hcl h hi hr h6)
            rw [getT_put this]
            exact h2 x hx
          · rcases hchk (p, ids) h1 with h6 | h6
            · exact absurd (ready_bits hcl h hi hr h6) hpl
            · have h7 := h6 id hid
              refine hkp.2 id h7.2 fun hm => ?_
              have := h7.1
              rw [List.contains_eq_mem] at this
              simp at this
              exact this hm
          · rw [getT_put (hsl.two p i d op oo hop hi hd hpi)]
            exact h5 d hd
      · cases hk
/-- The machine does one that may come up. -/
theorem sim_do (hE : EnvOK P C.E) (hC : ∀ g args bs r, C.call g args bs = some r → Contract P g args bs r) {Q : Exit → Act → World → Prop} (hcl : closedOk ops bs = true) (hsl : Slots lz ops bs) {i : Nat} {oo : Oper} (hi : ops[i]? = some oo) (hr : ∀ j ∈ bindsOn oo, Ls listed j) (hl : ¬ Ls listed i) {next : Act → World → Prop}
    (hn : ∀ late done rest early s' a' w' Im' ρ', Sim lz late P C B ops bs K r done rest early s' (listed.setIfInBounds i true) a' w' Im' ρ' → next a' w') : ∀ {rest : List Nat} {late : Nat → Option Nat} {done : Nat} {early : List (Nat × List Nat)} {s : St}, Sim lz late P C B ops bs K r done rest early s listed a w Im ρ → wpOp P ops Q i next a w := by
  intro rest
  induction rest with
  | nil =>
    intro late done early s h
    have hd : done.testBit i = true := by
      rcases h.all i (Array.getElem?_eq_some_iff.1 hi).1 with h1 | h1
      · exact h1
      · simp at h1
    exact sim_pend hcl hsl h hi hr hd hl fun a' w' Im' ρ' h' => hn _ _ _ _ _ _ _ _ _ h'
  | cons k rest ih =>
    intro late done early s h
    cases hd : done.testBit i
    · have hline := h.line
      simp only [lineOk] at hline
      split at hline
      · rename_i ok hk
        simp only [Bool.and_eq_true, Bool.not_eq_true', List.all_eq_true, Bool.or_eq_true] at hline
        obtain ⟨⟨⟨hnd, hbd⟩, hlate⟩, hline⟩ := hline
        by_cases e : k = i
        · subst e
          rw [hi] at hk
          injection hk with hk
          subst hk
          cases hq : lazyB lz ops oo
          · exact sim_act hE hC hcl hsl h hi hr hq fun s' a' w' Im' ρ' h' => hn _ _ _ _ _ _ _ _ _ h'
          · obtain ⟨late', early', s', h'⟩ := sim_quiet hE hcl hsl h hi hq
            exact sim_pend hcl hsl h' hi hr (bit_or.2 (.inr rfl)) hl fun a' w' Im' ρ' h2 => hn _ _ _ _ _ _ _ _ _ h2
        · have him : i ∈ rest := by
            rcases h.all i (Array.getElem?_eq_some_iff.1 hi).1 with h1 | h1
            · rw [hd] at h1; cases h1
            · rcases List.mem_cons.1 h1 with h2 | h2
              · exact absurd h2.symm e
              · exact h2
          have hq : lazyB lz ops ok = true := by
            rcases hlate with h1 | h1
            · exact h1
            · have h2 := h.sub k (ready_bits hcl h hi hr (h1 i him))
              rw [hnd] at h2
              cases h2
          obtain ⟨late', early', s', h'⟩ := sim_quiet hE hcl hsl h hk hq
          exact ih h'
      · cases hline
    · exact sim_pend hcl hsl h hi hr hd hl fun a' w' Im' ρ' h' => hn _ _ _ _ _ _ _ _ _ h'
theorem sim_end {Q : Exit → Act → World → Prop} (hQ : ∀ s a w, K s = some r → Sta B s a w → Q .normal a w) (h : Sim lz late P C B ops bs K r done rest early s listed a w Im ρ) (hall : ∀ i, i < ops.size → Ls listed i) : Q .normal a w := by
  cases rest with
  | nil =>
    have hev := h.ev
    simp only [evDr] at hev
    refine hQ s a w hev ⟨⟨Im, ρ, h.now, ⟨h.tsz, fun d => h.slots d fun p oo hp hnl hoo => absurd (hall p (Array.getElem?_eq_some_iff.1 hoo).1) hnl⟩⟩, h.df⟩
  | cons k rest =>
    have hline := h.line
    simp only [lineOk] at hline
    split at hline
    · rename_i ok hk
      simp only [Bool.and_eq_true, Bool.not_eq_true'] at hline
      have h2 := h.sub k (hall k (Array.getElem?_eq_some_iff.1 hk).1)
      rw [hline.1.1.1] at h2
      cases h2
    · cases hline
theorem ready_none (hlt : ∀ (i : Nat) (oo : Oper), ops[i]? = some oo → ∀ j ∈ bindsOn oo, j < i) (hsz : listed.size = ops.size) (h0 : Region.ready .any ops listed = []) : ∀ i, i < ops.size → Ls listed i := by
  intro i
  induction i using Nat.strongRecOn with
  | _ i ih =>
    intro hi
    cases hc : listed.getD i false
    · exfalso
      have hm : i ∈ Region.ready .any ops listed := by
        refine mem_ready.2 ⟨?_, ops[i], by simp [hi], fun e he hb => ?_⟩
        · have hl : i < listed.size := by omega
          simp [hl] at hc ⊢
          exact hc
        · have hj : e.on ∈ bindsOn ops[i] := List.mem_filterMap.2 ⟨e, by simpa using he, by simp [hb]⟩
          have h1 := hlt i ops[i] (by simp [hi]) e.on hj
          exact ih e.on h1 (by omega)
      rw [h0] at hm
      cases hm
    · exact hc
theorem sim_all (hE : EnvOK P C.E) (hC : ∀ g args bs r, C.call g args bs = some r → Contract P g args bs r) {Q : Exit → Act → World → Prop} (hQ : ∀ s a w, K s = some r → Sta B s a w → Q .normal a w) (hcl : closedOk ops bs = true) (hsl : Slots lz ops bs) (hlt : ∀ (i : Nat) (oo : Oper), ops[i]? = some oo → ∀ j ∈ bindsOn oo, j < i) :
    ∀ (fuel : Nat) {late : Nat → Option Nat} {rest : List Nat} {done : Nat} {early : List (Nat × List Nat)} {s : St} {listed : Array Bool} {a : Act} {w : World} {Im : Nat → Prop} {ρ : Nat → Option Value}, Sim lz late P C B ops bs K r done rest early s listed a w Im ρ → listed.toList.countP (fun b => !b) ≤ fuel → wpAny P .any ops Q fuel listed a w
  | 0, late, rest, done, early, s, listed, a, w, Im, ρ, h, hc => by
    have hall : ∀ i, i < ops.size → Ls listed i := by
      intro i hi
      have h0 : listed.toList.countP (fun b => !b) = 0 := by omega
      rw [List.countP_eq_zero] at h0
      have hl : i < listed.size := by rw [h.sz]; exact hi
      have := h0 listed[i] (by simp)
      unfold Ls
      simp [hl]
      simpa using this
    refine ⟨?_, sim_end hQ h hall⟩
    rw [List.eq_nil_iff_forall_not_mem]
    intro i hm
    obtain ⟨h1, oo, h2, _⟩ := mem_ready.1 hm
    have hi := (Array.getElem?_eq_some_iff.1 h2).1
    have hl : i < listed.size := by rw [h.sz]; exact hi
    have h3 := hall i hi
    unfold Ls at h3
    simp [hl] at h1 h3
    rw [h1] at h3
    cases h3
  | fuel + 1, late, rest, done, early, s, listed, a, w, Im, ρ, h, hc => by
    refine ⟨fun h0 => sim_end hQ h (ready_none hlt h.sz h0), fun i hm => ?_⟩
    obtain ⟨h1, oo, hi, h2⟩ := mem_ready.1 hm
    have hsz := (Array.getElem?_eq_some_iff.1 hi).1
    have hl : i < listed.size := by rw [h.sz]; exact hsz
    have hnl : ¬ Ls listed i := by
      unfold Ls
      simp [hl] at h1 ⊢
      exact h1
    refine sim_do hE hC hcl hsl hi (binds_ready h2) hnl (fun late done rest early s' a' w' Im' ρ' h' => sim_all hE hC hQ hcl hsl hlt fuel h' ?_) h
    have hf : listed[i] = false := by simpa [hl] using h1
    have hf2 : listed.toList[i]'(by simpa using hl) = false := by simpa using hf
    have hpos : 0 < listed.toList.countP (fun b => !b) := List.countP_pos_iff.2 ⟨false, by rw [← hf2]; exact List.getElem_mem _, rfl⟩
    rw [Array.toList_setIfInBounds, List.countP_set (by simpa using hl), hf2]
    generalize listed.toList.countP (fun b => !b) = c at hc hpos ⊢
    simp only [Bool.not_false, if_true, Bool.not_true, Bool.false_eq_true, if_false]
    omega
end
theorem evDrawAt_sound (hE : EnvOK P C.E) (hC : ∀ g args bs r, C.call g args bs = some r → Contract P g args bs r) {id : Nat} {ops : Array Oper} {Q : Exit → Act → World → Prop} {K : St → R} (hQ : ∀ s a w, K s = some r → Sta B s a w → Q .normal a w)
    {s : St} {other : Unit → R} (ho : other () = some r → (Code.region id ops true).wp P Q a w) (h : evDrawAt lz C ops s K other = some r) (hs : Sta B s a w) : (Code.region id ops true).wp P Q a w := by
  unfold evDrawAt at h
  split at h
  · rename_i hok
    simp only [drawOk, Bool.and_eq_true] at hok
    obtain ⟨⟨⟨⟨hcl, hsl⟩, hline⟩, hall⟩, hlt⟩ := hok
    obtain ⟨⟨Im, ρ, hn, ht⟩, hd⟩ := hs
    have hstep : Step w Im ρ s.o { w with drawn := w.drawn + 1 } Im ρ s.o := by
      have hsr := hn.sr
      have hc : Compat ρ ρ s.o s.o := fun id a ha => ⟨a, ha, by cases a <;> simp [CompatO]⟩
      have him : ∀ b, Im b → Im b ∧ ({ w with drawn := w.drawn + 1 } : World).heap[b]? = w.heap[b]? := fun b hb => ⟨hb, rfl⟩
      exact ⟨⟨rfl, rfl, rfl, Nat.le_refl _⟩, ⟨fun id x v hx hv => RO.keep him hc (fun _ _ => rfl) (fun _ _ h => h) (hsr.ob id x v hx hv), hsr.inj, hsr.lt, hsr.im, hsr.dd⟩, fun c x hx => RC.compat him hc hx, fun _ _ _ => rfl, fun id v b h1 h2 => .inr ⟨id, v, h1, h2⟩, him, fun b hb => .inl hb, fun h => h, Grown.refl⟩
    have hnl : ∀ i, ¬ Ls (Array.replicate ops.size false) i := by
      intro i hi
      unfold Ls at hi
      simp only [Array.getD_eq_getD_getElem?, Array.getElem?_replicate] at hi
      split at hi <;> simp at hi
    refine wp_region_any hE.mixed (sim_all hE hC hQ hcl (slots_of hsl) (fun i oo hi j hj => ?_) ops.size (Im := Im) (ρ := ρ) (late := fun _ => none) (done := 0) (early := []) ⟨h, hline, by simp, fun i hi => absurd hi (hnl i), fun e k he _ => absurd he (hnl e), fun e k he _ => by simp at he, fun i oo hi => by simp at hi, fun i hi => ?_, hn.step hstep, ht.size,
      fun d _ => hstep.keepA _ _ (ht.at_ d), fun p oo hp => by simp at hp, hd, fun p q n hp => by simp at hp, fun p n hp => by simp at hp⟩ ?_)
    · have := all_zip hlt hi
      simp only [List.all_eq_true, decide_eq_true_eq] at this
      exact this j hj
    · rw [List.all_eq_true] at hall
      have := hall i (List.mem_range.2 hi)
      rw [List.contains_eq_mem] at this
      exact .inr (by simpa using this)
    · exact Nat.le_trans List.countP_le_length (by simp)
  · exact ho h
theorem evDraw_sound (hE : EnvOK P C.E) (hC : ∀ g args bs r, C.call g args bs = some r → Contract P g args bs r) {id : Nat} {ops : Array Oper} {Q : Exit → Act → World → Prop} {K : St → R} (hQ : ∀ s a w, K s = some r → Sta B s a w → Q .normal a w)
    {s : St} (h : evDraw C ops s K = some r) (hs : Sta B s a w) : (Code.region id ops true).wp P Q a w :=
  evDrawAt_sound hE hC hQ (fun h => evDrawAt_sound hE hC hQ (fun h => by cases h) h hs) h hs
end
end Go.Dp
