/- Contracts of functions that return a plain value and leave the world as it was; strings.Count at one byte. -/
import Derived.Test.YtnliglgellapdaaDp22
import Derived.Lib.Bytealg
set_option linter.unusedVariables false
namespace Go.Dp
theorem pure1_contract {P : Program} {f : FuncId} {as : List PV} {vals : List Value} {res : PV} {z : Value} (he : Enters P f)
    (hA : ∀ (w : World) (Im : Nat → Prop) (i : Nat) (a : PV) (y : Value), as[i]? = some a → RP w Im a y → vals[i]? = some y) (hl : vals.length = as.length) (hR : ∀ (w : World) (Im : Nat → Prop), RP w Im res z)
    (h : ∀ w, Calls P f vals.toArray w fun e w' => e = .returned z ∧ w' = w) : Contract P f (as.map .p) [] ([.c (.p res)], []) := by
  refine ⟨he, fun w Im bl vss ys pre => ?_⟩
  have hb : bl = [] := List.eq_nil_of_length_eq_zero (by simpa using pre.l1)
  have hv : vss = [] := by simpa using pre.l2
  subst hb
  subst hv
  have hy : ys = vals := by
    apply List.ext_getElem?
    intro i
    have h3 := pre.l3
    rw [List.length_map] at h3
    rcases Nat.lt_or_ge i ys.length with hi | hi
    · have ha : i < as.length := by omega
      rw [List.getElem?_eq_getElem hi]
      refine (hA w Im i as[i] ys[i] (List.getElem?_eq_getElem ha) (pre.arg i (.p as[i]) ys[i] ?_ (List.getElem?_eq_getElem hi))).symm
      simp [List.getElem?_eq_getElem ha]
    · rw [List.getElem?_eq_none hi, List.getElem?_eq_none (by omega)]
  subst hy
  refine (h w).mono ?_
  rintro e w' ⟨rfl, rfl⟩
  refine ⟨z, Im, [], [z], rfl, ?_⟩
  exact { wd := Wd.refl _, fr := fun _ _ _ => rfl, im := fun b hb => ⟨hb, rfl⟩, imn := fun b hb => ⟨.inl hb, pre.im b hb⟩, l1 := rfl, l2 := rfl,
          box := fun j b vs h1 => by simp at h1
          tok := by
            refine ⟨rfl, fun i c y h1 h2 => ?_, fun i j b h1 h2 => ?_, fun i b h1 => ?_⟩
            · cases i with
              | zero =>
                simp [cellsOfS] at h1 h2
                subst h1
                subst h2
                exact hR _ _
              | succ i => simp [cellsOfS] at h1
            · obtain ⟨e, sh, xs, y, h3, _⟩ := h1
              cases i <;> simp [cellsOfS] at h3
            · obtain ⟨e, sh, xs, y, h3, _⟩ := h1
              cases i <;> simp [cellsOfS] at h3
          ow := by
            rintro b ⟨i, e, sh, xs, y, h3, _⟩
            cases i <;> simp [cellsOfS] at h3
          ret := ⟨[z], RetSs.cons (d := .c (.p res)) (y := z) (zs := [z]) rfl .nil, rfl⟩ }
/-- strings.Count at one byte. -/
def countT (n : Nat) : FuncId → List AV → List (List CV) → R := fun f args bs =>
  bif f == n then match args, bs with
    | [.s (.c (.p (.str s))), .s (.c (.p (.str ⟨⟨[c]⟩⟩)))], [] => some ([.c (.p (.int .i64 (Lib.countByte s.data.toList c : Nat)))], [])
    | _, _ => none
  else none
theorem countT_ok {P : Program} {n : Nat} (he : Enters P n) (h : ∀ (s : ByteArray) (c : UInt8) (w : World), Calls P n #[.string s, .string ⟨#[c]⟩] w fun e w' => e = .returned (.int .i64 (Lib.countByte s.data.toList c)) ∧ w' = w) :
    ∀ f args bs r, countT n f args bs = some r → Contract P f args bs r := by
  intro f args bs r hr
  unfold countT at hr
  by_cases hf : f = n
  · subst hf
    simp only [beq_self_eq_true, cond_true] at hr
    split at hr
    · rename_i s c
      injection hr with hr
      subst hr
      refine pure1_contract (as := [.str s, .str ⟨⟨[c]⟩⟩]) (vals := [.string s, .string ⟨⟨[c]⟩⟩]) (z := .int .i64 (Lib.countByte s.data.toList c)) he ?_ rfl (fun w Im => .int _ _) (h s c)
      intro w Im i a y ha hy
      cases i with
      | zero => simp at ha; subst ha; cases hy; rfl
      | succ i => cases i with
        | zero => simp at ha; subst ha; cases hy; rfl
        | succ i => simp at ha
    · cases hr
  · rw [show (f == n) = false by simpa using hf] at hr
    cases hr
def orT (a b : FuncId → List AV → List (List CV) → R) : FuncId → List AV → List (List CV) → R := fun f args bs => match a f args bs with
  | some r => some r
  | none => b f args bs
theorem orT_ok {P : Program} {a b : FuncId → List AV → List (List CV) → R} (ha : ∀ f args bs r, a f args bs = some r → Contract P f args bs r) (hb : ∀ f args bs r, b f args bs = some r → Contract P f args bs r) : ∀ f args bs r, orT a b f args bs = some r → Contract P f args bs r := by
  intro f args bs r h
  unfold orT at h
  split at h
  · rename_i r' h'
    injection h with h
    subst h
    exact ha _ _ _ _ h'
  · exact hb _ _ _ _ h
end Go.Dp
