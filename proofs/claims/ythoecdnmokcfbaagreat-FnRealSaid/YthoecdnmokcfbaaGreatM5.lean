/- The law FnReal of the program: for all arguments it returns true,and its arguments read as they did. -/
import Derived.Test.YthoecdnmokcfbaaGreatM4
import Derived.Test.YthoecdnmokcfbaaGreatM2
import Derived.Test.YthoecdnmokcfbaaGreatRows
import Derived.WalkKit
import Derived.ProofKit
import Derived.OpenShut
import Derived.ShutString
import Derived.ChangeOld
import Derived.Below
import Derived.SizedLaws
/- Sights drawn;splits and meets of the program. -/
set_option linter.unusedVariables false
set_option linter.unusedSimpArgs false
set_option maxRecDepth 4000
namespace Go.Proofs.YthoecdnmokcfbaaGreat
open Go.Dp
theorem byS_okV {p:Prg} {ts:List (List Nd)}:OkV (bif sbB p ts then byL p ts (zeros p) else []) /\ (bif sbB p ts then byL p ts (zeros p) else []).length<=32:=by
 cases h:sbB p ts
 ·exact ⟨⟨by simp,by simp⟩,by simp⟩
 ·simp only [sbB,Bool.and_eq_true] at h
  have:=(nS_le h.1).2
  refine ⟨byL_okV p ts (zeros_okV h.1),?_⟩
  simp only [cond_true]
  rw [byL_len]
  simpa [zeros] using this
theorem tail_okV {v:List Int} (hv:OkV v) (h32:v.length<=32):OkV (v ++ [0]) /\ OkV (v.set (v.length - 1) (v.length:Int)):=by
 refine ⟨⟨by simp;omega,fun x hx=>?_⟩,⟨by simp;omega,fun x hx=>?_⟩⟩
 ·rcases List.mem_append.1 hx with h | h
  ·exact hv.rng x h
  ·rw [List.mem_singleton.1 h];omega
 ·rcases List.mem_or_eq_of_mem_set hx with h | rfl
  ·exact hv.rng x h
  ·omega
theorem tail_ok {bs:List Nat} (hc:CodeOK bs) {k:Nat} (hk:2000<=k) {v:List Int} (hv:OkV v) (h32:v.length<=32) {at':Int} (h0:0<=at') (h1:at'<=600000000) (s:W) :
   ∃ a2 s2 w,(R103 (c103 k 40 (encB bs) at' (wi s)) fun l8 v7 v8 v9 =>
  bif (v9 == 0) then
   bif decide (((encZ v).length + 1) * 8<=LIM) && decide ((encZ v).length + 1<=LIM) then
    r45 l8 v7 v8 ((((encZ v).take (encZ v).length) ++ [PV.int .i64 0]).take ((encZ v).length + 1))
   else none
  else
   bif (v9 == 1) then
    bif decide (((encZ v).length:Int) > 0) then
     bif decide ((0:Int)<=IntKind.i64.wrap (((encZ v).length:Int) - 1)) && decide (IntKind.i64.wrap (((encZ v).length:Int) - 1) < ((encZ v).length:Int)) then
      ((encZ v)[0 + ((IntKind.i64.wrap (((encZ v).length:Int) - 1)).toNat)]?).bind fun p4 =>
      r45 l8 v7 v8 (((encZ v).set (0 + ((IntKind.i64.wrap (((encZ v).length:Int) - 1)).toNat)) (PV.int .i64 ((encZ v).length:Int))).take (encZ v).length)
     else none
    else r45 l8 v7 v8 ((encZ v).take (encZ v).length)
   else r45 l8 v7 v8 ((encZ v).take (encZ v).length)) = r45 (encB bs) a2 (wi s2) (encZ w) /\ at'<=a2 /\ a2<=at' + 2 /\ OkV w:=by
 obtain ⟨a2,s2,x,h,h2,h3,_⟩:=pick_ok hc (k:=k) (by omega) h0 (by omega) s 40
 obtain ⟨t1,t2⟩:=tail_okV hv h32
 rw [h]
 simp only [R103_r,encZ_length,encZ_tk]
 cases (x == 0)
 · simp only [cond_false]
   cases (x == 1)
   · exact ⟨a2,s2,v,rfl,by omega,by omega,hv⟩
   · simp only [cond_true]
     by_cases hl:0 < v.length
     · have e1:decide ((v.length:Int) > 0) = true:=decide_eq_true (by omega)
       have ew:IntKind.i64.wrap ((v.length:Int) - 1) = ((v.length - 1:Nat):Int):=by rw [i64_id (by omega) (by omega)];omega
       have eg:(decide ((0:Int)<=((v.length - 1:Nat):Int)) && decide (((v.length - 1:Nat):Int) < (v.length:Int))) = true:=by
         rw [decide_eq_true (by omega),decide_eq_true (by omega)];rfl
       have hg:(encZ v)[0 + (((v.length - 1:Nat):Int)).toNat]? = some (.int .i64 (v[v.length - 1]'(by omega))):=by
         rw [Nat.zero_add,Int.toNat_natCast,encZ_get,List.getElem?_eq_getElem (by omega)]
         rfl
       rw [e1,ew,eg,hg]
       simp only [cond_true,Option.bind_some,Nat.zero_add,Int.toNat_natCast]
       rw [encZ_set,List.take_of_length_le (by simp)]
       exact ⟨a2,s2,_,rfl,by omega,by omega,t2⟩
     · have e1:decide ((v.length:Int) > 0) = false:=decide_eq_false (by omega)
       rw [e1]
       exact ⟨a2,s2,v,rfl,by omega,by omega,hv⟩
 · simp only [cond_true]
   rw [lim_ok (by omega) (by omega),encZ_snoc,List.take_of_length_le (by simp)]
   exact ⟨a2,s2,_,rfl,by omega,by omega,t1⟩
theorem sight_ok {bs:List Nat} (hc:CodeOK bs) {k:Nat} (hk:1001000<=k) {p:Prg} (hp:FitP p) {at':Int} (h0:0<=at') (h1:at'<=400000000) (s:W) :
  ∃ a2 s2 v,c45 k p.wide p.vars (encT p.start) (encCms p.cmds) (encB bs) at' (wi s) = r45 (encB bs) a2 (wi s2) (encZ v) /\ at'<=a2 /\ a2<=at' + 50000 /\ OkV v:=by
 obtain ⟨k,rfl⟩:∃ j,k = j + 1:=⟨k - 1,by omega⟩
 have hw:=hp.w
 have hv:=hp.v
 rw [n45]
 obtain ⟨a2,s2,ts,h,h2,h3,h4,h5⟩:=preds_ok hc (k:=k) (by omega) (wide:=p.wide) (vars:=p.vars) (by omega) (by omega) (encT p.start) (encCms p.cmds) 3 (by omega) (by omega) h0 (by omega) s
 rw [h]
 simp only [R106_r]
 rw [sightByS_ok (by omega) p hp ts (by omega) h5]
 simp only [R105_r]
 obtain ⟨hk0,hl0⟩:=byS_okV (p:=p) (ts:=ts)
 generalize (bif sbB p ts then byL p ts (zeros p) else []) = v at hk0 hl0 ⊢
 obtain ⟨a3,s3,b,h,h6,h7⟩:=one_ok hc (k:=k) (by omega) (at':=a2) (by omega) (by omega) s2 3
 rw [h]
 simp only [R48_r]
 cases b
 ·simp only [cond_false]
  obtain ⟨a4,s4,w,h,h8,h9,h10⟩:=tail_ok hc (k:=k) (by omega) hk0 hl0 (at':=a3) (by omega) (by omega) s3
  exact ⟨a4,s4,w,h,by omega,by omega,h10⟩
 ·simp only [cond_true]
  obtain ⟨a4,s4,so,h,h8,h9,h10⟩:=someOf_ok hc (k:=k) (by omega) 4 3 (by omega) (by omega) (at':=a3) (by omega) (by omega) s3
  rw [h]
  simp only [R108_r]
  rw [encZ_length,encZ_tk,cutOutS_ok (by omega) p hp hk0 (by omega),R107p_enc]
  cases hco:coB p v so
  ·simp only [cond_false]
   obtain ⟨a5,s5,w,h,h11,h12,h13⟩:=tail_ok hc (k:=k) (by omega) hk0 hl0 (at':=a4) (by omega) (by omega) s4
   rw [encZ_length,encZ_tk] at h
   exact ⟨a5,s5,w,h,by omega,by omega,h13⟩
  ·simp only [cond_true]
   obtain ⟨a5,s5,w,h,h11,h12,h13⟩:=tail_ok hc (k:=k) (by omega) (cut_okV (some1:=so) hk0) (by rw [cut_len];exact hl0) (at':=a4) (by omega) (by omega) s4
   exact ⟨a5,s5,w,h,by omega,by omega,h13⟩
end Go.Proofs.YthoecdnmokcfbaaGreat
/- Terms as trees. -/
set_option linter.unusedVariables false
set_option linter.unusedSimpArgs false
set_option maxRecDepth 4000
namespace Go.Proofs.YthoecdnmokcfbaaGreat
open Go.Dp
inductive Tr where
 | leaf (x:Nd)
 | un (x:Nd) (a:Tr)
 | bin (x:Nd) (a b:Tr)
end Go.Proofs.YthoecdnmokcfbaaGreat
/- Folding: the plain laws. -/
set_option linter.unusedVariables false
set_option linter.unusedSimpArgs false
set_option maxRecDepth 4000
namespace Go.Proofs.YthoecdnmokcfbaaGreat
open Go.Dp
end Go.Proofs.YthoecdnmokcfbaaGreat
/- Folding: the functions. -/
set_option linter.unusedVariables false
set_option linter.unusedSimpArgs false
set_option maxRecDepth 4000
namespace Go.Proofs.YthoecdnmokcfbaaGreat
open Go.Dp
theorem w1:IntKind.i64.wrap ((1:Int) - 1) = 0:=(i64_id (by omega) (by omega)).trans (by omega)
end Go.Proofs.YthoecdnmokcfbaaGreat
/- FnFolded: folding's functions and the law. -/
set_option linter.unusedVariables false
set_option linter.unusedSimpArgs false
set_option maxRecDepth 4000
namespace Go.Proofs.YthoecdnmokcfbaaGreat
open Go.Dp
end Go.Proofs.YthoecdnmokcfbaaGreat
/- FnFolded: the law. -/
set_option linter.unusedVariables false
set_option linter.unusedSimpArgs false
set_option maxRecDepth 4000
namespace Go.Proofs.YthoecdnmokcfbaaGreat
open Go.Dp
end Go.Proofs.YthoecdnmokcfbaaGreat
/- Steps between numbered states. -/
set_option linter.unusedVariables false
set_option linter.unusedSimpArgs false
set_option maxRecDepth 4000
namespace Go.Proofs.YthoecdnmokcfbaaGreat
open Go.Dp
def aft (p:Prg) (c:Cmd) (no:Int):List W:=afterS p.wide (sto p no) c.ch (sto p no)
def toN (p:Prg) (c:Cmd) (no:Int):Int:=(noOf (pw p) (aft p c no):Nat)
theorem toN_ok {p:Prg} (hp:FitP p) (hs:smallP p = true) {k1:Int} (hn:cnoOK p k1 = true) {no:Int} (hi:inS p no):stOK p (aft p (cmdAt p k1) no) = true /\ inS p (toN p (cmdAt p k1) no) /\ sto p (toN p (cmdAt p k1) no) = aft p (cmdAt p k1) no:=by
 obtain ⟨hw,hv,_,_,_,_,hx⟩:=good_cmd hp (k1:=k1) (by simp [tOK,small_good hs,hn])
 obtain ⟨h1,h2⟩:=(stOK_of hw).1 (sto_ok hs hi)
 have h3:stOK p (aft p (cmdAt p k1) no) = true:=(stOK_of hw).2 ⟨by rw [aft,afterS_length];exact h1,afterS_all h1 h2 _ _ (fun x h=>(hx x h).2.2) h2⟩
 exact ⟨h3,no_inS hs h3⟩
theorem afterN_ok {k:Nat} (hk:1000020<=k) {p:Prg} (hp:FitP p) (hs:smallP p = true) {k1:Int} (hn:cnoOK p k1 = true) (l1 l2 l3:List PV) {no:Int} (hi:inS p no):c127 k p.wide p.vars l1 l2 l3 (encChs (cmdAt p k1).ch) (encW (sto p no)) = r127 (encW (aft p (cmdAt p k1) no)):=by
 obtain ⟨hw,hv,_,_,hf,_,hx⟩:=good_cmd hp (k1:=k1) (by simp [tOK,small_good hs,hn])
 have hso:=sto_ok hs hi
 obtain ⟨h1,h2⟩:=(stOK_of hw).1 hso
 have hsl:=st_len hp hso
 have hfc:=hf.ch
 exact after_ok (by omega) p hw l1 l2 l3 _ (by omega) h1 h2 _ (by omega) (fun x h=>⟨(hx x h).1,(hx x h).2.1,(hx x h).2.2,hf.by1 x h⟩)
theorem doN_ok {k:Nat} (hk:1000020<=k) {p:Prg} (hp:FitP p) (hs:smallP p = true) {k1:Int} (hn:cnoOK p k1 = true) (l1:List PV) {no:Int} (hi:inS p no):c173 k p.wide p.vars l1 (encCms p.cmds) (encW (sto p no)) k1 = r173 (encW (aft p (cmdAt p k1) no)):=by
 obtain ⟨k,rfl⟩:∃ j,k = j + 1:=⟨k - 1,by omega⟩
 obtain ⟨hw,hv,_,_,hf,_,hx⟩:=good_cmd hp (k1:=k1) (by simp [tOK,small_good hs,hn])
 have hso:=sto_ok hs hi
 obtain ⟨h1,h2⟩:=(stOK_of hw).1 hso
 have hsl:=st_len hp hso
 have hfc:=hf.ch
 obtain ⟨hget,hm⟩:=cmdAt_get hn
 rw [n173,hget,encW_length,lim_ok (by omega) (by omega)]
 simp only [cond_true,Option.bind_some,encCm_ch,encChs_length,List.nil_append,Nat.zero_add]
 have:=do_loop (k:=k) (by omega) p hw l1 (encCms p.cmds) _ h1 h2 (cmdAt p k1).ch (by omega) (fun x h=>⟨(hx x h).1,(hx x h).2.1,(hx x h).2.2,hf.by1 x h⟩) k 0 _ (by omega) (by omega) rfl
 exact this
theorem cmd_kind {p:Prg} (hp:FitP p) (hs:smallP p = true) {k1:Int} (hn:cnoOK p k1 = true):(cmdAt p k1).wh.length<=100 /\ kindT p.wide p.vars (cmdAt p k1).wh = 2:=by
 obtain ⟨hw,hv,_,_,hf,h1,hx⟩:=good_cmd hp (k1:=k1) (by simp [tOK,small_good hs,hn])
 exact ⟨hf.wh,h1⟩
end Go.Proofs.YthoecdnmokcfbaaGreat
/- The states that one step reaches: both sides;those of many states,the reference's reachable ones. -/
set_option linter.unusedVariables false
set_option linter.unusedSimpArgs false
set_option maxRecDepth 4000
namespace Go.Proofs.YthoecdnmokcfbaaGreat
open Go.Dp
def sucL (p:Prg) (no:Int):List Cmd->List Int
 | []=>[]
 | c :: l=>(bif hN p c.wh no then [toN p c no] else []) ++ sucL p no l
theorem sucL_len (p:Prg) (no:Int):∀ l:List Cmd,(sucL p no l).length<=l.length
 | []=>by simp [sucL]
 | c :: l=>by
  have:=sucL_len p no l
  simp only [sucL,List.length_append,List.length_cons]
  cases hN p c.wh no <;> simp <;> omega
theorem sucL_mem (p:Prg) (no:Int):∀ (l:List Cmd) (y:Int),y ∈ sucL p no l ↔ ∃ c ∈ l,hN p c.wh no = true /\ y = toN p c no
 | [],y=>by simp [sucL]
 | c :: l,y=>by
  simp only [sucL,List.mem_append,sucL_mem p no l y]
  cases hh:hN p c.wh no <;> simp [hh]
def nxL (p:Prg) (no:Int):List Int:=bif (sucL p no p.cmds).isEmpty then [no] else canI (sucL p no p.cmds)
theorem canI_nil' {l:List Int} (h:l ≠ []):canI l ≠ []:=by
 intro h2
 obtain ⟨x,hx⟩:=List.exists_mem_of_ne_nil _ h
 have:=((canI_spec l).2 x).2 hx
 rw [h2] at this
 cases this
theorem cmd_at {p:Prg} {i:Nat} (h:i < p.cmds.length):cmdAt p (i:Int) = p.cmds[i] /\ cnoOK p (i:Int) = true:=by
 refine ⟨?_,by simp [cnoOK,h]⟩
 unfold cmdAt
 rw [Int.toNat_natCast,List.getElem?_eq_getElem h]
 rfl
theorem nxL_mem {p:Prg} {no y:Int}:y ∈ nxL p no ↔ (∃ c ∈ p.cmds,hN p c.wh no = true /\ y = toN p c no) ∨ ((∀ c ∈ p.cmds,hN p c.wh no = false) /\ y = no):=by
 unfold nxL
 cases he:(sucL p no p.cmds).isEmpty
 ·have hne:sucL p no p.cmds ≠ []:=by intro h;rw [h] at he;cases he
  simp only [cond_false]
  rw [(canI_spec _).2 y,sucL_mem]
  constructor
  ·exact .inl
  ·rintro (h | ⟨h,_⟩)
   ·exact h
   ·obtain ⟨x,hx⟩:=List.exists_mem_of_ne_nil _ hne
    obtain ⟨c,hc,h2,_⟩:=(sucL_mem p no p.cmds x).1 hx
    rw [h c hc] at h2
    cases h2
 ·have hnil:sucL p no p.cmds = []:=by simpa using he
  simp only [cond_true,List.mem_singleton]
  have hno:∀ c ∈ p.cmds,hN p c.wh no = false:=by
   intro c hc
   cases hh:hN p c.wh no
   ·rfl
   ·have:toN p c no ∈ sucL p no p.cmds:=(sucL_mem p no p.cmds _).2 ⟨c,hc,hh,rfl⟩
    rw [hnil] at this
    cases this
  constructor
  ·exact fun h=>.inr ⟨hno,h⟩
  ·rintro (⟨c,hc,h2,_⟩ | ⟨_,h⟩)
   ·rw [hno c hc] at h2;cases h2
   ·exact h
theorem nxL_lt (p:Prg) (no:Int):(nxL p no).Pairwise (· < ·):=by
 unfold nxL
 cases (sucL p no p.cmds).isEmpty
 · exact (canI_spec _).1
 · simp
theorem nxL_len {p:Prg} (hp:FitP p) (no:Int):(nxL p no).length<=6:=by
 have hcm:=hp.cm
 unfold nxL
 cases (sucL p no p.cmds).isEmpty
 ·have h1:=canI_len (sucL p no p.cmds)
  have h2:=sucL_len p no p.cmds
  simp only [cond_false];omega
 ·simp
theorem nxL_in {p:Prg} (hp:FitP p) (hs:smallP p = true) {no:Int} (hi:inS p no):∀ y ∈ nxL p no,inS p y:=by
 intro y hy
 rcases nxL_mem.1 hy with ⟨c,hc,_,rfl⟩ | ⟨_,rfl⟩
 ·obtain ⟨i,hil,rfl⟩:=List.getElem_of_mem hc
  obtain ⟨e,hn⟩:=cmd_at hil
  rw [<- e]
  exact (toN_ok hp hs hn hi).2.1
 ·exact hi
theorem nextI_loop {k:Nat} (hk:1000100<=k) {p:Prg} (hp:FitP p) (hs:smallP p = true) {no:Int} (hi:inS p no) (l1:List PV):∀ (n i:Nat) (o:List Int),p.cmds.length - i < n->i<=p.cmds.length->o.length<=i ->
  L66_1 k n no (encW (sto p no)) o.length (encCms p.cmds) (p.cmds.length:Int) (i:Int) p.wide p.vars l1 (encCms p.cmds) (encZ o) = r66 (encZ (bif (o ++ sucL p no (p.cmds.drop i)).isEmpty then [no] else canI (o ++ sucL p no (p.cmds.drop i))))
 | 0,i,o,h,hj,ho=>by omega
 | n + 1,i,o,h,hj,ho=>by
  have hcm:=hp.cm
  have etk:(encZ o).take o.length = encZ o:=by rw [List.take_of_length_le (by simp)]
  rw [sL66_1]
  by_cases hlt:i < p.cmds.length
  ·have hd:decide ((i:Int) < (p.cmds.length:Int)) = true:=by simpa using hlt
   have hnext:IntKind.i64.wrap ((i:Int) + 1) = ((i + 1:Nat):Int):=by rw [i64_id (by omega) (by omega)];omega
   obtain ⟨e,hn⟩:=cmd_at hlt
   obtain ⟨hwl,hwk⟩:=cmd_kind hp hs hn
   rw [hd,lookP_nat,encCms_get,List.getElem?_eq_getElem hlt,drop_cons hlt,hnext,<- e]
   simp only [cond_true,Option.map_some,Option.bind_some,encCm_shp,encCm_wh,encCm_ch]
   rw [holdsI_ok (by omega) p (small_good hs) _ _ _ hwl hwk _ (sto_ok hs hi)]
   simp only [R67_r,sucL]
   change (bif hN p (cmdAt p (i:Int)).wh no then _ else _) = _
   cases hh:hN p (cmdAt p (i:Int)).wh no
   ·simp only [cond_false,List.nil_append]
    exact nextI_loop hk hp hs hi l1 n (i + 1) o (by omega) (by omega) (by omega)
   ·simp only [cond_true]
    rw [afterN_ok (by omega) hp hs hn _ _ _ hi]
    simp only [R127_r]
    rw [noI_ok (by omega) hs _ _ (toN_ok hp hs hn hi).1]
    simp only [R126_r]
    rw [lim_ok (by omega) (by omega),etk,encZ_snoc]
    simp only [cond_true]
    have:=nextI_loop hk hp hs hi l1 n (i + 1) (o ++ [toN p (cmdAt p (i:Int)) no]) (by omega) (by omega) (by simp;omega)
    rw [List.length_append,List.append_assoc] at this
    exact this
  ·have hd:decide ((i:Int) < (p.cmds.length:Int)) = false:=by simpa using hlt
   have hol:decide (o.length<=LIM) = true:=decide_eq_true (by unfold LIM;omega)
   have ed:p.cmds.drop i = []:=List.drop_eq_nil_of_le (by omega)
   rw [hd,ed]
   simp only [cond_false,sucL,List.append_nil]
   cases o with
   | nil=>rfl
   | cons x o =>
    have e0:(((x :: o).length:Int) == 0) = false:=by simp;omega
    rw [e0,etk,intsOf_enc,hol]
    simp only [cond_false,cond_true,Option.bind_some]
    rw [sort_view,intsOf_enc]
    simp only [Option.bind_some]
    rw [comp_view]
    rfl
theorem nextI_ok {k:Nat} (hk:1000200<=k) {p:Prg} (hp:FitP p) (hs:smallP p = true) {no:Int} (hi:inS p no) (l1:List PV):c66 k p.wide p.vars l1 (encCms p.cmds) no = r66 (encZ (nxL p no)):=by
 obtain ⟨k,rfl⟩:∃ j,k = j + 1:=⟨k - 1,by omega⟩
 have hcm:=hp.cm
 rw [n66,stoI_ok (by omega) hs _ _ hi]
 simp only [R68_r,encCms_length]
 exact nextI_loop (k:=k) (by omega) hp hs hi l1 k 0 [] (by omega) (by omega) (by simp)
theorem sucE (p:Prg) (no:Int):∀ (i:Nat),i<=p.cmds.length->(enL p (sto p no) i (p.cmds.drop i)).map (fun j=>toN p (cmdAt p j) no) = sucL p no (p.cmds.drop i):=by
 intro i hi
 generalize hm:p.cmds.length - i = m
 induction m generalizing i with
 | zero=>rw [List.drop_eq_nil_of_le (by omega)];rfl
 | succ m ih =>
  have hlt:i < p.cmds.length:=by omega
  rw [drop_cons hlt]
  simp only [enL,sucL,List.map_append,ih (i + 1) (by omega) (by omega)]
  congr 1
  obtain ⟨e,_⟩:=cmd_at hlt
  change (bif hN p p.cmds[i].wh no then [(i:Int)] else []).map _ = _
  cases hN p p.cmds[i].wh no
  ·rfl
  ·simp [e]
theorem nextS_loop {k:Nat} (hk:1000100<=k) {p:Prg} (hp:FitP p) (hs:smallP p = true) {no:Int} (hi:inS p no) (l1:List PV) (en:List Int) (hen:en.length<=100) (hin:∀ j ∈ en,cnoOK p j = true):∀ (n i:Nat) (o:List Int),en.length - i < n->i<=en.length->o.length<=i ->
  L111_1 k n no (encW (sto p no)) o.length (encZ en) (en.length:Int) (i:Int) p.wide p.vars l1 (encCms p.cmds) (encZ o) = r111 (encZ (bif (putAllI o ((en.drop i).map fun j=>toN p (cmdAt p j) no)).isEmpty then [no] else putAllI o ((en.drop i).map fun j=>toN p (cmdAt p j) no)))
 | 0,i,o,h,hj,ho=>by omega
 | n + 1,i,o,h,hj,ho=>by
  have etk:(encZ o).take o.length = encZ o:=by rw [List.take_of_length_le (by simp)]
  rw [sL111_1,etk]
  by_cases hlt:i < en.length
  ·have hd:decide ((i:Int) < (en.length:Int)) = true:=by simpa using hlt
   have hnext:IntKind.i64.wrap ((i:Int) + 1) = ((i + 1:Nat):Int):=by rw [i64_id (by omega) (by omega)];omega
   have hn:=hin _ (List.getElem_mem hlt)
   rw [hd,encZ_lookup hlt,drop_cons hlt,hnext]
   simp only [cond_true,Option.bind_some,int_atInt,List.map_cons]
   rw [doN_ok (by omega) hp hs hn _ hi]
   simp only [R173_r]
   rw [noS_ok (by omega) hs _ _ (toN_ok hp hs hn hi).1]
   simp only [R172_r]
   rw [l1Put_ok (by omega) o (by omega)]
   simp only [R119_r,encZ_length]
   have hpl:=putI_len o (toN p (cmdAt p en[i]) no)
   exact nextS_loop hk hp hs hi l1 en hen hin n (i + 1) (putI o (toN p (cmdAt p en[i]) no)) (by omega) (by omega) (by omega)
  ·have hd:decide ((i:Int) < (en.length:Int)) = false:=by simpa using hlt
   have ed:en.drop i = []:=List.drop_eq_nil_of_le (by omega)
   rw [hd,ed]
   cases o with
   | nil=>rfl
   | cons x o =>
    have e0:(((x :: o).length:Int) == 0) = false:=by simp;omega
    rw [e0]
    rfl
theorem nextS_ok {k:Nat} (hk:1000200<=k) {p:Prg} (hp:FitP p) (hs:smallP p = true) {no:Int} (hi:inS p no) (l1:List PV):c111 k p.wide p.vars l1 (encCms p.cmds) no = r111 (encZ (nxL p no)):=by
 obtain ⟨k,rfl⟩:∃ j,k = j + 2:=⟨k - 2,by omega⟩
 have hcm:=hp.cm
 rw [n111,stoS_ok (by omega) hs _ _ hi]
 simp only [R121_r]
 have hen:=enabledS_loop (k:=k) (by omega) p hp (small_good hs) (sto p no) (sto_ok hs hi) l1 (encCms p.cmds) k 0 [] (by omega) (by omega) (by simp)
 rw [n171,encCms_length]
 have hen':L171_1 k k (encW (sto p no)) 0 (encCms p.cmds) (p.cmds.length:Int) 0 p.wide p.vars l1 (encCms p.cmds) [] = _:=hen
 rw [hen']
 simp only [R171_r,List.nil_append,encZ_length]
 have hmem:∀ j ∈ enL p (sto p no) 0 p.cmds,cnoOK p j = true:=by
  intro j hj
  obtain ⟨q,c,hq,_,rfl⟩:=(enL_mem p (sto p no) p.cmds 0 j).1 hj
  have:=(List.getElem?_eq_some_iff.1 hq).1
  simp [cnoOK,this]
 have hsl:=sucL_len p no p.cmds
 have he:=sucE p no 0 (by omega)
 rw [List.drop_zero] at he
 have hel:(enL p (sto p no) 0 p.cmds).length<=100:=by
  have:=congrArg List.length he
  rw [List.length_map] at this
  omega
 have:=nextS_loop (k:=k + 1) (by omega) hp hs hi l1 _ hel hmem (k + 1) 0 [] (by omega) (by omega) (by simp)
 rw [List.drop_zero,he] at this
 have h':L111_1 (k + 1) (k + 1) no (encW (sto p no)) 0 (encZ (enL p (sto p no) 0 (p.cmds.drop 0))) ((enL p (sto p no) 0 (p.cmds.drop 0)).length:Int) 0 p.wide p.vars l1 (encCms p.cmds) [] = _:=this
 rw [h',<- canI_put (l:=sucL p no p.cmds) (m:=sucL p no p.cmds) (fun x=>Iff.rfl)]
 congr 2
 unfold nxL
 cases hq:(sucL p no p.cmds).isEmpty
 ·have hne:sucL p no p.cmds ≠ []:=by intro h;rw [h] at hq;cases hq
  have:(canI (sucL p no p.cmds)).isEmpty = false:=by
   cases hc:canI (sucL p no p.cmds) with
   | nil=>exact absurd hc (canI_nil' hne)
   | cons=>rfl
  rw [this]
 ·have hnil:sucL p no p.cmds = []:=by simpa using hq
  rw [hnil,show canI ([]:List Int) = [] from List.eq_nil_of_length_eq_zero (Nat.le_zero.1 (canI_len []))]
  rfl
end Go.Proofs.YthoecdnmokcfbaaGreat
/- The reference's reachable states. -/
set_option linter.unusedVariables false
set_option linter.unusedSimpArgs false
set_option maxRecDepth 4000
namespace Go.Proofs.YthoecdnmokcfbaaGreat
open Go.Dp
theorem lt_room:∀ (l:List Int) (lo hi:Int),l.Pairwise (· < ·)->(∀ x ∈ l,lo<=x /\ x < hi)->(l.length:Int)<=max 0 (hi - lo)
 | [],lo,hi,_,_=>by simp;omega
 | x :: l,lo,hi,h,hb=>by
  have hx:=hb x (by simp)
  have h1:=List.pairwise_cons.1 h
  have:=lt_room l (x + 1) hi h1.2 fun y hy=>⟨by have:=h1.1 y hy;omega,(hb y (by simp [hy])).2⟩
  simp only [List.length_cons]
  omega
theorem in_room {p:Prg} (hs:smallP p = true) {l:List Int} (hl:l.Pairwise (· < ·)) (hi:∀ x ∈ l,inS p x):l.length<=32:=by
 have h1:=lt_room l 0 (nS p:Int) hl fun x hx=>hi x hx
 have h2:=(nS_le hs).2
 omega
def aftAll (p:Prg):List Int->List Int
 | []=>[]
 | x :: l=>nxL p x ++ aftAll p l
theorem aftAll_mem (p:Prg):∀ (l:List Int) (y:Int),y ∈ aftAll p l ↔ ∃ x ∈ l,y ∈ nxL p x
 | [],y=>by simp [aftAll]
 | x :: l,y=>by simp [aftAll,aftAll_mem p l y]
theorem after_loop2 {k:Nat} (hk:1000100<=k) (p:Prg) (l1 l2:List PV) (n1:Nat) (t10:List PV) (t11:Int) (i:Nat) (l:List Int) (hl:l.length<=100):∀ (n j:Nat) (o:List Int),l.length - j < n->j<=l.length->o.length<=700 + j ->
  L149_2 k n1 n o.length t10 t11 (i:Int) (encZ l) (l.length:Int) (j:Int) p.wide p.vars l1 l2 (encZ o) = L149_1 k n1 (putAllI o (l.drop j)).length t10 t11 (IntKind.i64.wrap ((i:Int) + 1)) p.wide p.vars l1 l2 (encZ (putAllI o (l.drop j)))
 | 0,j,o,hn,hj,ho=>by omega
 | n + 1,j,o,hn,hj,ho=>by
  have etk:(encZ o).take o.length = encZ o:=by rw [List.take_of_length_le (by simp)]
  rw [sL149_2]
  by_cases hlt:j < l.length
  ·have hd:decide ((j:Int) < (l.length:Int)) = true:=by simpa using hlt
   have hnext:IntKind.i64.wrap ((j:Int) + 1) = ((j + 1:Nat):Int):=by rw [i64_id (by omega) (by omega)];omega
   rw [hd,encZ_lookup hlt,drop_cons hlt,hnext,etk]
   simp only [cond_true,Option.bind_some,int_atInt]
   rw [l1Put_ok (by omega) o (by omega)]
   simp only [R119_r,encZ_length]
   have hpl:=putI_len o l[j]
   exact after_loop2 hk p l1 l2 n1 t10 t11 i l hl n (j + 1) (putI o l[j]) (by omega) (by omega) (by omega)
  ·have hd:decide ((j:Int) < (l.length:Int)) = false:=by simpa using hlt
   rw [hd,List.drop_eq_nil_of_le (by omega)]
   rfl
theorem after_loop1 {k:Nat} (hk:1000300<=k) {p:Prg} (hp:FitP p) (hs:smallP p = true) (l1:List PV) (l:List Int) (hl:l.length<=100) (hin:∀ x ∈ l,inS p x):∀ (n i:Nat) (o:List Int),l.length - i < n->i<=l.length->o.length<=6 * i ->
  L149_1 k n o.length (encZ l) (l.length:Int) (i:Int) p.wide p.vars l1 (encCms p.cmds) (encZ o) = r149 (encZ (putAllI o (aftAll p (l.drop i))))
 | 0,i,o,hn,hi,ho=>by omega
 | n + 1,i,o,hn,hi,ho=>by
  have etk:(encZ o).take o.length = encZ o:=by rw [List.take_of_length_le (by simp)]
  rw [sL149_1]
  by_cases hlt:i < l.length
  ·have hd:decide ((i:Int) < (l.length:Int)) = true:=by simpa using hlt
   have hnext:IntKind.i64.wrap ((i:Int) + 1) = ((i + 1:Nat):Int):=by rw [i64_id (by omega) (by omega)];omega
   have hx:=hin _ (List.getElem_mem hlt)
   rw [hd,encZ_lookup hlt,drop_cons hlt]
   simp only [cond_true,Option.bind_some,int_atInt]
   rw [nextS_ok (by omega) hp hs hx]
   simp only [R111_r,encZ_length]
   have hnl:=nxL_len hp l[i]
   have h2:=after_loop2 (k:=k) (by omega) p l1 (encCms p.cmds) n (encZ l) (l.length:Int) i (nxL p l[i]) (by omega) k 0 o (by omega) (by omega) (by omega)
   have h':L149_2 k n k o.length (encZ l) (l.length:Int) (i:Int) (encZ (nxL p l[i])) ((nxL p l[i]).length:Int) 0 p.wide p.vars l1 (encCms p.cmds) (encZ o) = _:=h2
   rw [h',hnext,List.drop_zero,aftAll,putAllI_app]
   have hpl:=putAllI_len (nxL p l[i]) o
   exact after_loop1 hk hp hs l1 l hl hin n (i + 1) _ (by omega) (by omega) (by omega)
  ·have hd:decide ((i:Int) < (l.length:Int)) = false:=by simpa using hlt
   rw [hd,List.drop_eq_nil_of_le (by omega),etk]
   rfl
theorem l8After_ok {k:Nat} (hk:1000400<=k) {p:Prg} (hp:FitP p) (hs:smallP p = true) (l1:List PV) (l:List Int) (hl:l.length<=100) (hin:∀ x ∈ l,inS p x):c149 k p.wide p.vars l1 (encCms p.cmds) (encZ l) = r149 (encZ (putAllI [] (aftAll p l))):=by
 obtain ⟨k,rfl⟩:∃ j,k = j + 1:=⟨k - 1,by omega⟩
 rw [n149,encZ_length]
 exact after_loop1 (k:=k) (by omega) hp hs l1 l hl hin k 0 [] (by omega) (by omega) (by simp)
def grow (p:Prg) (o:List Int):List Int:=putAllI o (putAllI [] (aftAll p o))
end Go.Proofs.YthoecdnmokcfbaaGreat
/- The reference's way back. -/
set_option linter.unusedVariables false
set_option linter.unusedSimpArgs false
set_option maxRecDepth 4000
namespace Go.Proofs.YthoecdnmokcfbaaGreat
open Go.Dp
theorem meetI_iff (a b:List Int):meetI a b = true ↔ ∃ y ∈ a,y ∈ b:=by simp [meetI]
end Go.Proofs.YthoecdnmokcfbaaGreat
/- What is asked of reachable states: the reference's answers,the draws. -/
set_option linter.unusedVariables false
set_option linter.unusedSimpArgs false
set_option maxRecDepth 4000
namespace Go.Proofs.YthoecdnmokcfbaaGreat
open Go.Dp
theorem no_in {p:Prg} {no:Int} (h:noOK p no = true):smallP p = true /\ inS p no:=by
 simp only [noOK,Bool.and_eq_true,decide_eq_true_eq] at h
 exact ⟨h.1.1,h.1.2,h.2⟩
theorem startK {p:Prg} (hs:smallP p = true):kindT p.wide p.vars p.start = 2:=by
 have:=small_good hs
 simp only [goodP,Bool.and_eq_true,beq_iff_eq] at this
 exact this.1.1.1
end Go.Proofs.YthoecdnmokcfbaaGreat
/- FnPlayed: the law. -/
set_option linter.unusedVariables false
set_option linter.unusedSimpArgs false
set_option maxRecDepth 4000
namespace Go.Proofs.YthoecdnmokcfbaaGreat
open Go.Dp
theorem hasL_loop {k:Nat} (l:List Int) (hl:l.length<=100000) (v:Int):∀ (n i:Nat),l.length - i < n->i<=l.length->L19_1 k n v (encZ l) (l.length:Int) (i:Int) = r19 ((l.drop i).contains v)
 | 0,i,h,hi=>by omega
 | n + 1,i,h,hi=>by
  rw [sL19_1]
  by_cases hlt:i < l.length
  ·have hd:decide ((i:Int) < (l.length:Int)) = true:=by simpa using hlt
   rw [hd,encZ_lookup hlt,drop_cons hlt]
   simp only [cond_true,Option.bind_some,int_atInt,List.contains_cons]
   rw [show (v == l[i]) = (l[i] == v) from BEq.comm]
   cases he:(l[i] == v)
   ·simp only [cond_false,Bool.false_or]
    rw [i64_id (by omega) (by omega)]
    exact hasL_loop l hl v n (i + 1) (by omega) (by omega)
   ·simp
  ·have hd:decide ((i:Int) < (l.length:Int)) = false:=by simpa using hlt
   rw [hd,List.drop_eq_nil_of_le (by omega)]
   simp
theorem hasL_ok {k:Nat} (hk:100010<=k) (l:List Int) (hl:l.length<=100000) (v:Int):c19 k (encZ l) v = r19 (l.contains v):=by
 obtain ⟨k,rfl⟩:∃ j,k = j + 1:=⟨k - 1,by omega⟩
 rw [n19,encZ_length]
 have:=hasL_loop (k:=k) l hl v k 0 (by omega) (by omega)
 simpa using this
theorem withinL_loop {k:Nat} (hk:100010<=k) (a b:List Int) (ha:a.length<=100000) (hb:b.length<=100000):∀ (n i:Nat),a.length - i < n->i<=a.length->L32_1 k n (encZ b) (encZ a) (a.length:Int) (i:Int) = r32 ((a.drop i).all fun x=>b.contains x)
 | 0,i,h,hi=>by omega
 | n + 1,i,h,hi=>by
  rw [sL32_1]
  by_cases hlt:i < a.length
  ·have hd:decide ((i:Int) < (a.length:Int)) = true:=by simpa using hlt
   have hnext:IntKind.i64.wrap ((i:Int) + 1) = ((i + 1:Nat):Int):=by rw [i64_id (by omega) (by omega)];omega
   rw [hd,encZ_lookup hlt,drop_cons hlt,hnext]
   simp only [cond_true,Option.bind_some,int_atInt]
   rw [hasL_ok hk b hb]
   simp only [R19_r,List.all_cons]
   cases b.contains a[i]
   ·rfl
   ·exact withinL_loop hk a b ha hb n (i + 1) (by omega) (by omega)
  ·have hd:decide ((i:Int) < (a.length:Int)) = false:=by simpa using hlt
   rw [hd,List.drop_eq_nil_of_le (by omega)]
   rfl
theorem withinL_ok {k:Nat} (hk:100020<=k) (a b:List Int) (ha:a.length<=100000) (hb:b.length<=100000):c32 k (encZ a) (encZ b) = r32 (a.all fun x=>b.contains x):=by
 obtain ⟨k,rfl⟩:∃ j,k = j + 1:=⟨k - 1,by omega⟩
 rw [n32,encZ_length]
 exact withinL_loop (k:=k) (by omega) a b ha hb k 0 (by omega) (by omega)
end Go.Proofs.YthoecdnmokcfbaaGreat
/- Sights by several conditions;cubes;cuts of the program. -/
set_option linter.unusedVariables false
set_option linter.unusedSimpArgs false
set_option linter.unusedSectionVars false
set_option maxRecDepth 8000
namespace Go.Proofs.YthoecdnmokcfbaaGreat
open Go.Dp
def stF (c:Int):List Int->Nat->List Int
 | [],_=>[]
 | x :: l,i=>bif x == c then (i:Int) :: stF c l (i + 1) else stF c l (i + 1)
theorem stF_mem (c:Int):∀ (l:List Int) (i:Nat) (x:Int),x ∈ stF c l i ↔ ∃ j,∃ h:j < l.length,x = ((i + j:Nat):Int) /\ l[j] = c
 | [],i,x=>by simp [stF]
 | y :: l,i,x=>by
  have key:(x ∈ stF c (y :: l) i) ↔ (y = c /\ x = (i:Int)) ∨ x ∈ stF c l (i + 1):=by
   rw [stF]
   by_cases h:y = c
   ·have h1:(y == c) = true:=by simpa using h
    rw [h1,cond_true,List.mem_cons]
    constructor
    ·rintro (h2 | h2)
     ·exact .inl ⟨h,h2⟩
     ·exact .inr h2
    ·rintro (⟨_,h2⟩ | h2)
     ·exact .inl h2
     ·exact .inr h2
   ·have h1:(y == c) = false:=by simpa using h
    rw [h1,cond_false]
    exact ⟨.inr,fun h2=>h2.resolve_left fun h3=>h h3.1⟩
  rw [key,stF_mem c l (i + 1)]
  constructor
  ·rintro (⟨h1,h2⟩ | ⟨j,hj,h1,h2⟩)
   ·exact ⟨0,by simp,by simpa using h2,h1⟩
   ·exact ⟨j + 1,by simp;omega,by rw [h1];congr 1;omega,h2⟩
  ·rintro ⟨j,hj,h1,h2⟩
   cases j with
   | zero=>exact .inl ⟨h2,by simpa using h1⟩
   | succ j=>exact .inr ⟨j,by simpa using hj,by rw [h1];congr 1;omega,h2⟩
theorem stF_len (c:Int):∀ (l:List Int) (i:Nat),(stF c l i).length<=l.length
 | [],i=>by simp [stF]
 | y :: l,i=>by
  have:=stF_len c l (i + 1)
  rw [stF]
  cases (y == c) <;> simp <;> omega
def stV (v:List Int) (c:Int):List Int:=stF c v 0
theorem statesIn_loop {k:Nat} (c:Int) (v:List Int) (hv:v.length<=1000):∀ (n i:Nat) (o:List Int),v.length - i < n->i<=v.length->o.length<=i ->
  L101_1 k n c o.length (encZ v) (v.length:Int) (i:Int) (encZ o) = r101 (encZ (o ++ stF c (v.drop i) i))
 | 0,i,o,h,hi,ho=>by omega
 | n + 1,i,o,h,hi,ho=>by
  rw [sL101_1,encZ_tk]
  by_cases hlt:i < v.length
  ·have hd:decide ((i:Int) < (v.length:Int)) = true:=by simpa using hlt
   have hnext:IntKind.i64.wrap ((i:Int) + 1) = ((i + 1:Nat):Int):=by rw [i64_id (by omega) (by omega)];omega
   rw [hd,encZ_lookup hlt,drop_cons hlt,hnext]
   simp only [cond_true,Option.bind_some,int_atInt,stF]
   cases (v[i] == c)
   ·exact statesIn_loop c v hv n (i + 1) o (by omega) (by omega) (by omega)
   ·rw [lim_ok (by omega) (by omega),encZ_snoc]
    have:=statesIn_loop (k:=k) c v hv n (i + 1) (o ++ [(i:Int)]) (by omega) (by omega) (by simp;omega)
    rw [List.length_append,List.append_assoc] at this
    exact this
  ·have hd:decide ((i:Int) < (v.length:Int)) = false:=by simpa using hlt
   rw [hd,List.drop_eq_nil_of_le (by omega)]
   simp [stF]
theorem statesIn_ok {k:Nat} (hk:1010<=k) {v:List Int} (hv:v.length<=1000) (c:Int):c101 k (encZ v) c = r101 (encZ (stV v c)):=by
 obtain ⟨k,rfl⟩:∃ j,k = j + 1:=⟨k - 1,by omega⟩
 rw [n101,encZ_length]
 have:=statesIn_loop (k:=k) c v hv k 0 [] (by omega) (by omega) (by simp)
 simpa [stV,encZ] using this
theorem isClass_ok {k:Nat} (hk:1000600<=k) (p:Prg) (hp:FitP p) {v:List Int} (hv:OkV v) (c:Int):c84 k p.wide p.vars (encT p.start) (encCms p.cmds) (encZ v) c = r84 (gsB p v && (decide (0<=c) && decide (c < manyF v 0))):=by
 obtain ⟨k,rfl⟩:∃ j,k = j + 1:=⟨k - 1,by omega⟩
 have hvl:=hv.len
 rw [n84,goodSightI_ok (by omega) p hp v (by omega)]
 simp only [R49_r]
 cases hg:gsB p v
 · rfl
 obtain ⟨s1,s2,s3⟩:=gs_small hg
 have:=(nS_le s1).1
 simp only [cond_true,Bool.true_and,ge_iff_le]
 cases h0:decide (0<=c)
 · rfl
 simp only [cond_true,Bool.true_and]
 rw [classes_ok (by omega) (by omega) (by rintro rfl;simp at s3;omega) s2]
 simp only [R116_r]
theorem StatesInI_ok {k:Nat} (hk:1000700<=k) (p:Prg) (hp:FitP p) {v:List Int} (hv:OkV v) (c:Int):c43 k p.wide p.vars (encT p.start) (encCms p.cmds) (encZ v) c = r43 (encZ (bif gsB p v && (decide (0<=c) && decide (c < manyF v 0)) then stV v c else [])) (gsB p v && (decide (0<=c) && decide (c < manyF v 0))):=by
 obtain ⟨k,rfl⟩:∃ j,k = j + 1:=⟨k - 1,by omega⟩
 have hvl:=hv.len
 rw [n43,isClass_ok (by omega) p hp hv]
 simp only [R84_r]
 cases (gsB p v && (decide (0<=c) && decide (c < manyF v 0)))
 · rfl
 simp only [Bool.not_true,cond_false,cond_true]
 rw [statesIn_ok (by omega) (by omega)]
 simp only [R101_r]
 all_goals simp only [encZ_length,encZ_tk]
end Go.Proofs.YthoecdnmokcfbaaGreat
/- Graphs of small programs. -/
set_option linter.unusedVariables false
set_option linter.unusedSimpArgs false
set_option maxRecDepth 4000
namespace Go.Proofs.YthoecdnmokcfbaaGreat
open Go.Dp
def encZZ (l:List (List Int)):List PV:=l.map fun z=>.row 0 0 (encZ z)
@[simp] theorem encZZ_length (l:List (List Int)):(encZZ l).length = l.length:=by simp [encZZ]
theorem encZZ_get (l:List (List Int)) (i:Nat):(encZZ l)[i]? = (l[i]?).map fun z=>.row 0 0 (encZ z):=by simp [encZZ]
theorem encZZ_snoc (l:List (List Int)) (x:List Int):encZZ l ++ [.row 0 0 (encZ x)] = encZZ (l ++ [x]):=by simp [encZZ]
def graphF (p:Prg):Nat->Nat->List (List Int)
 | 0,i=>[]
 | m + 1,i=>nxL p (i:Int) :: graphF p m (i + 1)
def graphL (p:Prg):List (List Int):=graphF p (nS p) 0
theorem graphF_len (p:Prg):∀ (m i:Nat),(graphF p m i).length = m
 | 0,i=>rfl
 | m + 1,i=>by simp [graphF,graphF_len p m]
theorem graphF_get (p:Prg):∀ (m i j:Nat),j < m->(graphF p m i)[j]? = some (nxL p ((i + j:Nat):Int))
 | 0,i,j,h=>by omega
 | m + 1,i,0,h=>by simp [graphF]
 | m + 1,i,j + 1,h=>by
  rw [graphF,List.getElem?_cons_succ,graphF_get p m (i + 1) j (by omega)]
  congr 3
  omega
theorem graph_loop {k:Nat} (hk:1000300<=k) {p:Prg} (hp:FitP p) (hs:smallP p = true) (l1:List PV):∀ (m n i:Nat) (o:List (List Int)),m < n->i + m = nS p->o.length = i ->
  L133_1 k n o.length (nS p:Int) (i:Int) p.wide p.vars l1 (encCms p.cmds) (encZZ o) = r133 (encZZ (o ++ graphF p m i))
 | m,0,i,o,hn,hm,ho=>by omega
 | 0,n + 1,i,o,hn,hm,ho=>by
  have hd:decide ((i:Int) < (nS p:Int)) = false:=by simp;omega
  have etk:(encZZ o).take o.length = encZZ o:=by rw [List.take_of_length_le (by simp)]
  rw [sL133_1,hd,etk,graphF,List.append_nil]
  rfl
 | m + 1,n + 1,i,o,hn,hm,ho=>by
  have hle:=(nS_le hs).2
  have hd:decide ((i:Int) < (nS p:Int)) = true:=by simp;omega
  have hnext:IntKind.i64.wrap ((i:Int) + 1) = ((i + 1:Nat):Int):=by rw [i64_id (by omega) (by omega)];omega
  have etk:(encZZ o).take o.length = encZZ o:=by rw [List.take_of_length_le (by simp)]
  rw [sL133_1,hd,nextI_ok (by omega) hp hs ⟨by omega,by omega⟩,hnext,etk]
  simp only [cond_true,R66_r]
  rw [lim_ok (by omega) (by omega),encZZ_snoc]
  simp only [cond_true]
  have:=graph_loop hk hp hs l1 m n (i + 1) (o ++ [nxL p (i:Int)]) (by omega) (by omega) (by simp;omega)
  rw [List.length_append,List.append_assoc] at this
  exact this
theorem graph_ok {k:Nat} (hk:1000400<=k) {p:Prg} (hp:FitP p) (hs:smallP p = true) (l1:List PV):c133 k p.wide p.vars l1 (encCms p.cmds) = r133 (encZZ (graphL p)):=by
 obtain ⟨k,rfl⟩:∃ j,k = j + 1:=⟨k - 1,by omega⟩
 have hle:=(nS_le hs).2
 rw [n133,nSI_ok (by omega) hs]
 simp only [R50_r]
 exact graph_loop (k:=k) (by omega) hp hs l1 (nS p) k 0 [] (by omega) (by omega) rfl
end Go.Proofs.YthoecdnmokcfbaaGreat
/- Graphs turned around. -/
set_option linter.unusedVariables false
set_option linter.unusedSimpArgs false
set_option maxRecDepth 4000
namespace Go.Proofs.YthoecdnmokcfbaaGreat
open Go.Dp
def atL (o:List (List Int)) (w:Nat):List Int:=(o[w]?).getD []
end Go.Proofs.YthoecdnmokcfbaaGreat
/- Breadth first: the least numbers of steps. -/
set_option linter.unusedVariables false
set_option linter.unusedSimpArgs false
namespace Go.Proofs.YthoecdnmokcfbaaGreat
open Go.Dp
def dAt (d:List Int) (v:Int):Int:=(d[v.toNat]?).getD (-1)
def inG (N:Nat) (v:Int):Prop:=0<=v /\ v.toNat < N
end Go.Proofs.YthoecdnmokcfbaaGreat
/- A row made of one value,many times over. -/
set_option linter.unusedVariables false
set_option linter.unusedSimpArgs false
set_option maxRecDepth 8000
namespace Go.Proofs.YthoecdnmokcfbaaGreat
open Go.Dp
end Go.Proofs.YthoecdnmokcfbaaGreat
/- The program's numbers of steps: breadth first. -/
set_option linter.unusedVariables false
set_option linter.unusedSimpArgs false
set_option maxRecDepth 8000
namespace Go.Proofs.YthoecdnmokcfbaaGreat
open Go.Dp
theorem inG_dec {N:Nat} {v:Int} (h:inG N v):(decide ((0:Int)<=v) && decide (v < (N:Int))) = true:=by
 obtain ⟨h0,h1⟩:=h
 rw [decide_eq_true h0,decide_eq_true (by omega)]
 rfl
structure GrF (G:List PV) (g:List (List Int)):Prop where
 len:G.length = g.length
 row:∀ i,i < g.length->∃ p,G[i]? = some p /\ p.atRow 0 0 = some (encZ (atL g i))
theorem GrF.at {G:List PV} {g:List (List Int)} (h:GrF G g) {v:Int} (hv:inG g.length v):(lookP G v).bind (fun p=>p.atRow 0 0) = some (encZ (atL g v.toNat)):=by
 obtain ⟨p,h1,h2⟩:=h.row v.toNat hv.2
 have:v = ((v.toNat:Nat):Int):=by have:=hv.1;omega
 rw [this,lookP_nat,Int.toNat_natCast,h1]
 exact h2
theorem GrF.bind {G:List PV} {g:List (List Int)} (h:GrF G g) {v:Int} (hv:inG g.length v) {α:Type} (K:List PV->Option α):((lookP G v).bind fun p=>(p.atRow 0 0).bind fun l=>K l) = K (encZ (atL g v.toNat)):=by
 have:=h.at hv
 cases hl:lookP G v with
 | none=>rw [hl] at this;cases this
 | some p =>
  rw [hl] at this
  simp only [Option.bind_some] at this ⊢
  rw [this]
  rfl
section
variable {k:Nat} {G:List PV} (h:Int)
end
end Go.Proofs.YthoecdnmokcfbaaGreat
/- What the program reaches,forth and back. -/
set_option linter.unusedVariables false
set_option linter.unusedSimpArgs false
set_option maxRecDepth 8000
namespace Go.Proofs.YthoecdnmokcfbaaGreat
open Go.Dp
theorem inG_in {p:Prg} {x:Int}:inG (nS p) x ↔ inS p x:=by
 unfold inG inS
 omega
theorem graphL_len (p:Prg):(graphL p).length = nS p:=graphF_len p (nS p) 0
theorem graphL_at (p:Prg) (i:Nat):atL (graphL p) i = if i < nS p then nxL p (i:Int) else []:=by
 unfold atL graphL
 by_cases h:i < nS p
 · rw [graphF_get p _ _ _ h,if_pos h,Nat.zero_add];rfl
 · rw [List.getElem?_eq_none (by rw [graphF_len];omega),if_neg h];rfl
theorem whI_len {p:Prg} (hs:smallP p = true) (t:List Nd):(whI p t).length<=32:=in_room hs (whN_lt p t _ _) fun x hx=>((whI_mem p t x).1 hx).1
end Go.Proofs.YthoecdnmokcfbaaGreat
/- The classes of a program's states: their steps,their graph,what is reached. -/
set_option linter.unusedVariables false
set_option linter.unusedSimpArgs false
set_option maxRecDepth 8000
namespace Go.Proofs.YthoecdnmokcfbaaGreat
open Go.Dp
theorem stF_lt (c:Int):∀ (l:List Int) (i:Nat),(stF c l i).Pairwise (· < ·) /\ ∀ x ∈ stF c l i,(i:Int)<=x
 | [],i=>by simp [stF]
 | y :: l,i=>by
  obtain ⟨h1,h2⟩:=stF_lt c l (i + 1)
  rw [stF]
  cases (y == c)
  ·exact ⟨h1,fun x hx=>by have:=h2 x hx;omega⟩
  ·refine ⟨List.pairwise_cons.2 ⟨fun x hx=>by have:=h2 x hx;omega,h1⟩,fun x hx=>?_⟩
   rcases List.mem_cons.1 hx with rfl | hx
   ·exact Int.le_refl _
   ·have:=h2 x hx
    omega
def mkB (bs:List Bool) (i:Nat):List Int:=stF 1 (bs.map fun b=>bif b then 1 else 0) i
theorem marked_loop {k:Nat} (bs:List Bool) (hl:bs.length<=1000):∀ (n i:Nat) (o:List Int),bs.length - i < n->i<=bs.length->o.length<=i ->
  L118_1 k n o.length (encBo bs) (bs.length:Int) (i:Int) (encZ o) = r118 (encZ (o ++ mkB (bs.drop i) i))
 | 0,i,o,h,hi,ho=>by omega
 | n + 1,i,o,h,hi,ho=>by
  rw [sL118_1,encZ_tk]
  by_cases hlt:i < bs.length
  ·have hd:decide ((i:Int) < (bs.length:Int)) = true:=by simpa using hlt
   have hnext:IntKind.i64.wrap ((i:Int) + 1) = ((i + 1:Nat):Int):=by rw [i64_id (by omega) (by omega)];omega
   have hb:(PV.bool bs[i]).atBool 0 = some bs[i]:=rfl
   have hm:mkB (bs.drop i) i = bif bs[i] then (i:Int) :: mkB (bs.drop (i + 1)) (i + 1) else mkB (bs.drop (i + 1)) (i + 1):=by
    unfold mkB
    rw [drop_cons hlt,List.map_cons,stF]
    cases bs[i] <;> rfl
   rw [hd,lookP_nat,encBo_get,List.getElem?_eq_getElem hlt,hnext,hm]
   simp only [cond_true,Option.map_some,Option.bind_some,hb]
   cases bs[i]
   ·exact marked_loop bs hl n (i + 1) o (by omega) (by omega) (by omega)
   ·simp only [cond_true]
    rw [lim_ok (by omega) (by omega),encZ_snoc]
    have:=marked_loop (k:=k) bs hl n (i + 1) (o ++ [(i:Int)]) (by omega) (by omega) (by simp;omega)
    rw [List.length_append,List.append_assoc] at this
    exact this
  ·have hd:decide ((i:Int) < (bs.length:Int)) = false:=by simpa using hlt
   rw [hd,List.drop_eq_nil_of_le (by omega)]
   simp [mkB,stF]
theorem marked_ok {k:Nat} (hk:1010<=k) (bs:List Bool) (hl:bs.length<=1000):c118 k (encBo bs) = r118 (encZ (mkB bs 0)):=by
 obtain ⟨k,rfl⟩:∃ j,k = j + 1:=⟨k - 1,by omega⟩
 have e:(encBo bs).length = bs.length:=by simp [encBo]
 rw [n118,e]
 have:=marked_loop (k:=k) bs hl k 0 [] (by omega) (by omega) (by simp)
 rw [List.drop_zero,List.nil_append] at this
 exact this
theorem R118p_enc (l:List Int) (K0:List PV->R):R118p (r118 (encZ l)) K0 = K0 (encZ l):=by
 have h:([SV.c (.own 3 0 (encZ l))].all plainS && true) = true:=by simp [plainS,plainC,encZ_plain];rfl
 show (bif ([SV.c (.own 3 0 (encZ l))].all plainS && true) then K0 (encZ l) else none) = _
 rw [h]
 rfl
def clV (v l:List Int):List Int:=putAllI [] (l.map (dAt v))
theorem clV_mem (v l:List Int) (x:Int):x ∈ clV v l ↔ ∃ y ∈ l,dAt v y = x:=by
 unfold clV
 rw [(putAllI_spec (l.map (dAt v)) [] (by simp)).2,List.mem_map]
 simp
theorem clV_lt (v l:List Int):(clV v l).Pairwise (· < ·):=(putAllI_spec (l.map (dAt v)) [] (by simp)).1
theorem clV_same {v l m:List Int} (h:∀ x,x ∈ l ↔ x ∈ m):clV v l = clV v m :=
 lt_ext (clV_lt v l) (clV_lt v m) fun x=>by
  rw [clV_mem,clV_mem]
  exact ⟨fun ⟨y,h1,h2⟩=>⟨y,(h y).1 h1,h2⟩,fun ⟨y,h1,h2⟩=>⟨y,(h y).2 h1,h2⟩⟩
theorem dAt_get {v:List Int} {x:Int} (h:x.toNat < v.length):dAt v x = v[x.toNat]:=by simp [dAt,h]
theorem dAt_rng {v:List Int} (hg:goodF v 0 = true) {x:Int} (h:x.toNat < v.length):0<=dAt v x /\ dAt v x < manyF v 0:=by
 rw [dAt_get h]
 exact good_lt v 0 hg _ (List.getElem_mem h)
theorem lookV {v:List Int} {x:Int} (h0:0<=x) (h1:x.toNat < v.length):lookP (encZ v) x = some (.int .i64 (dAt v x)):=by
 have e:x = ((x.toNat:Nat):Int):=by omega
 conv=>lhs;rw [e]
 rw [encZ_lookup h1,dAt_get h1]
theorem clV_rng {v l:List Int} (hg:goodF v 0 = true) (hl:∀ x ∈ l,inG v.length x):∀ x ∈ clV v l,0<=x /\ x < manyF v 0:=by
 intro x hx
 obtain ⟨y,h1,rfl⟩:=(clV_mem v l x).1 hx
 exact dAt_rng hg (hl y h1).2
theorem many_le {v:List Int} (hg:goodF v 0 = true):0<=manyF v 0 /\ manyF v 0<=(v.length:Int):=by
 have h2:=(cls_self hg).2
 have h3:(dis v []).length<=v.length:=nodup_sub (dis_nodup v [] (by simp)) (fun x hx=>by simpa using (dis_sub v [] x).1 hx)
 omega
theorem clV_len {v l:List Int} (hg:goodF v 0 = true) (hl:∀ x ∈ l,inG v.length x):(clV v l).length<=v.length:=by
 have h:=lt_room (clV v l) 0 (manyF v 0) (clV_lt v l) (clV_rng hg hl)
 have:=many_le hg
 omega
def inB (m:Nat) (l:List Int):List Bool:=(iota m).map fun c=>l.contains c
theorem inB_len (m:Nat) (l:List Int):(inB m l).length = m:=by simp [inB,iota_len]
theorem inB_set (n:Nat) (l:List Int) (a:Int) (h0:0<=a) (h1:a < (n:Int)):(inB n l).set a.toNat true = inB n (l ++ [a]):=by
 apply List.ext_getElem
 ·simp [inB,iota_len]
 ·intro i h2 h3
  have hi:i < n:=by simpa [inB,iota_len] using h3
  rw [List.getElem_set]
  simp only [inB,iota,List.getElem_map,List.getElem_range]
  split
  ·rename_i e
   have:(i:Int) = a:=by omega
   rw [this]
   simp
  ·rename_i e
   have hne:(i:Int) ≠ a:=by omega
   rw [Bool.eq_iff_iff,List.contains_iff_mem,List.contains_iff_mem,List.mem_append,List.mem_singleton]
   exact ⟨.inl,fun h=>h.resolve_right hne⟩
theorem encBo_set (l:List Bool) (i:Nat) (b:Bool):(encBo l).set i (.bool b) = encBo (l.set i b):=by simp [encBo,List.map_set]
theorem mkB_inB {m:Nat} {l:List Int} (hl:∀ x ∈ l,0<=x /\ x < (m:Int)):mkB (inB m l) 0 = putAllI [] l:=by
 refine lt_ext (stF_lt _ _ _).1 (putAllI_spec l [] (by simp)).1 fun x=>?_
 rw [(putAllI_spec l [] (by simp)).2,mkB,stF_mem]
 simp only [List.not_mem_nil,false_or]
 constructor
 ·rintro ⟨j,hj,rfl,h⟩
  have hj2:j < m:=by simpa [inB,iota_len] using hj
  simp only [inB,iota,List.getElem_map,List.getElem_range] at h
  cases hc:l.contains (j:Int)
  ·rw [hc] at h
   simp at h
  ·simpa using hc
 ·intro h
  have hx:=hl x h
  refine ⟨x.toNat,by simp [inB,iota_len];omega,by omega,?_⟩
  have e:((x.toNat:Nat):Int) = x:=by omega
  have hc:l.contains x = true:=by simpa using h
  simp only [inB,iota,List.getElem_map,List.getElem_range,e,hc]
  rfl
theorem nn_of {p:Prg} (hs:smallP p = true) {v:List Int} (h:v.length = nS p):v ≠ []:=by
 have:=(nS_le hs).1
 rintro rfl
 simp at h
 omega
theorem cl17_loop {k:Nat} (hk:2000<=k) {v:List Int} (hv:OkV v) (so:List Int) (hin:∀ x ∈ so,inG v.length x) (hs:so.length<=500):∀ (n i:Nat) (o:List Int),so.length - i < n->i<=so.length->o.length<=i ->
  L58_1 k n o.length (encZ so) (so.length:Int) (i:Int) (encZ v) (encZ o) = r58 (encZ (putAllI o ((so.drop i).map (dAt v))))
 | 0,i,o,h,hi,ho=>by omega
 | n + 1,i,o,h,hi,ho=>by
  rw [sL58_1,encZ_tk]
  by_cases hlt:i < so.length
  ·have hd:decide ((i:Int) < (so.length:Int)) = true:=by simpa using hlt
   have hnext:IntKind.i64.wrap ((i:Int) + 1) = ((i + 1:Nat):Int):=by rw [i64_id (by omega) (by omega)];omega
   have hx:=hin _ (List.getElem_mem hlt)
   have hpl:=putI_len o (dAt v so[i])
   rw [hd,encZ_lookup hlt,drop_cons hlt,hnext]
   simp only [cond_true,Option.bind_some,int_atInt]
   rw [lookV hx.1 hx.2]
   simp only [Option.bind_some,int_atInt]
   rw [l1Put_ok hk o (by omega)]
   simp only [R119_r,encZ_length,List.map_cons]
   exact cl17_loop hk hv so hin hs n (i + 1) _ (by omega) (by omega) (by omega)
  ·have hd:decide ((i:Int) < (so.length:Int)) = false:=by simpa using hlt
   rw [hd,List.drop_eq_nil_of_le (by omega)]
   rfl
theorem cl17_ok {k:Nat} (hk:2010<=k) {v:List Int} (hv:OkV v) (so:List Int) (hin:∀ x ∈ so,inG v.length x) (hs:so.length<=500):c58 k (encZ v) (encZ so) = r58 (encZ (clV v so)):=by
 obtain ⟨k,rfl⟩:∃ j,k = j + 1:=⟨k - 1,by omega⟩
 rw [n58,encZ_length]
 exact cl17_loop (k:=k) (by omega) hv so hin hs k 0 [] (by omega) (by omega) (by simp)
theorem l15In_loop {k:Nat} (c:Int) (v:List Int) (hv:v.length<=1000):∀ (n i:Nat) (o:List Int),v.length - i < n->i<=v.length->o.length<=i ->
  L148_1 k n c o.length (encZ v) (v.length:Int) (i:Int) (encZ o) = r148 (encZ (o ++ stF c (v.drop i) i))
 | 0,i,o,h,hi,ho=>by omega
 | n + 1,i,o,h,hi,ho=>by
  rw [sL148_1,encZ_tk]
  by_cases hlt:i < v.length
  ·have hd:decide ((i:Int) < (v.length:Int)) = true:=by simpa using hlt
   have hnext:IntKind.i64.wrap ((i:Int) + 1) = ((i + 1:Nat):Int):=by rw [i64_id (by omega) (by omega)];omega
   rw [hd,encZ_lookup hlt,drop_cons hlt,hnext]
   simp only [cond_true,Option.bind_some,int_atInt,stF]
   cases (v[i] == c)
   ·exact l15In_loop c v hv n (i + 1) o (by omega) (by omega) (by omega)
   ·rw [lim_ok (by omega) (by omega),encZ_snoc]
    have:=l15In_loop (k:=k) c v hv n (i + 1) (o ++ [(i:Int)]) (by omega) (by omega) (by simp;omega)
    rw [List.length_append,List.append_assoc] at this
    exact this
  ·have hd:decide ((i:Int) < (v.length:Int)) = false:=by simpa using hlt
   rw [hd,List.drop_eq_nil_of_le (by omega)]
   simp [stF]
theorem l15In_ok {k:Nat} (hk:1010<=k) {v:List Int} (hv:v.length<=1000) (c:Int):c148 k (encZ v) c = r148 (encZ (stV v c)):=by
 obtain ⟨k,rfl⟩:∃ j,k = j + 1:=⟨k - 1,by omega⟩
 rw [n148,encZ_length]
 have:=l15In_loop (k:=k) c v hv k 0 [] (by omega) (by omega) (by simp)
 simpa [stV,encZ] using this
theorem stV_in {v:List Int} {c x:Int}:x ∈ stV v c ↔ inG v.length x /\ dAt v x = c:=by
 rw [stV,stF_mem]
 constructor
 ·rintro ⟨j,hj,rfl,h⟩
  refine ⟨⟨by omega,by omega⟩,?_⟩
  rw [dAt_get (by omega)]
  simpa using h
 ·rintro ⟨⟨h1,h2⟩,h3⟩
  exact ⟨x.toNat,h2,by omega,by rw [<- dAt_get h2];exact h3⟩
theorem stV_len (v:List Int) (c:Int):(stV v c).length<=v.length:=stF_len c v 0
theorem stV_inS {p:Prg} {v:List Int} (hn:v.length = nS p) (c:Int):∀ x ∈ stV v c,inS p x:=by
 intro x hx
 have:=(stV_in.1 hx).1
 rw [hn] at this
 exact inG_in.1 this
theorem aft_in {p:Prg} (hp:FitP p) (hs:smallP p = true) {v:List Int} (hn:v.length = nS p) {l:List Int} (hl:∀ x ∈ l,inS p x):∀ x ∈ aftAll p l,inG v.length x:=by
 intro x hx
 obtain ⟨y,h1,h2⟩:=(aftAll_mem p l x).1 hx
 rw [hn]
 exact inG_in.2 (nxL_in hp hs (hl y h1) x h2)
def stpL (p:Prg) (v:List Int) (c:Int):List Int:=clV v (aftAll p (stV v c))
theorem steps17_ok {k:Nat} (hk:1000500<=k) {p:Prg} (hp:FitP p) (hs:smallP p = true) (l1:List PV) {v:List Int} (hv:OkV v) (hn:v.length = nS p) (c:Int):c89 k p.wide p.vars l1 (encCms p.cmds) (encZ v) c = r89 (encZ (stpL p v c)):=by
 obtain ⟨k,rfl⟩:∃ j,k = j + 1:=⟨k - 1,by omega⟩
 have hvl:=hv.len
 have hsl:=stV_len v c
 have hsi:=stV_inS hn c
 obtain ⟨q1,q2⟩:=putAllI_spec (aftAll p (stV v c)) [] (by simp)
 have hmem:∀ x,x ∈ putAllI [] (aftAll p (stV v c)) ↔ x ∈ aftAll p (stV v c):=fun x=>by rw [q2];simp
 have hin:∀ x ∈ putAllI [] (aftAll p (stV v c)),inG v.length x:=fun x hx=>aft_in hp hs hn hsi x ((hmem x).1 hx)
 have hlen:=in_room hs q1 (fun x hx=>inG_in.1 (by have:=hin x hx;rw [hn] at this;exact this))
 rw [n89,l15In_ok (by omega) (by omega)]
 simp only [R148_r]
 rw [l8After_ok (by omega) hp hs l1 (stV v c) (by omega) hsi]
 simp only [R149_r]
 rw [cl17_ok (by omega) hv _ hin (by omega),clV_same hmem]
 simp only [R58_r]
 rfl
theorem stpL_len {p:Prg} (hp:FitP p) (hs:smallP p = true) {v:List Int} (hn:v.length = nS p) (hg:goodF v 0 = true) (c:Int):(stpL p v c).length<=v.length:=clV_len hg (aft_in hp hs hn (stV_inS hn c))
theorem stpL_mem (p:Prg) (v:List Int) (c x:Int):x ∈ stpL p v c ↔ ∃ y,inG v.length y /\ dAt v y = c /\ ∃ z ∈ nxL p y,dAt v z = x:=by
 rw [stpL,clV_mem]
 constructor
 ·rintro ⟨z,h1,h2⟩
  obtain ⟨y,h3,h4⟩:=(aftAll_mem p _ z).1 h1
  obtain ⟨h5,h6⟩:=stV_in.1 h3
  exact ⟨y,h5,h6,z,h4,h2⟩
 ·rintro ⟨y,h5,h6,z,h4,h2⟩
  exact ⟨z,(aftAll_mem p _ z).2 ⟨y,stV_in.2 ⟨h5,h6⟩,h4⟩,h2⟩
theorem many15_loop {k:Nat} (v:List Int) (hv:v.length<=1000):∀ (n i m:Nat),v.length - i < n->i<=v.length->m<=i->goodF (v.drop i) (m:Int) = true ->
  L117_1 k n (m:Int) (encZ v) (v.length:Int) (i:Int) = r117 (manyF (v.drop i) (m:Int))
 | 0,i,m,h,hi,hm,hg=>by omega
 | n + 1,i,m,h,hi,hm,hg=>by
  rw [sL117_1]
  by_cases hlt:i < v.length
  ·have hd:decide ((i:Int) < (v.length:Int)) = true:=by simpa using hlt
   have hnext:IntKind.i64.wrap ((i:Int) + 1) = ((i + 1:Nat):Int):=by rw [i64_id (by omega) (by omega)];omega
   rw [drop_cons hlt] at hg ⊢
   simp only [goodF,Bool.and_eq_true,decide_eq_true_eq] at hg
   obtain ⟨h1,h2,h3⟩:=hg
   rw [hd,encZ_lookup hlt,hnext]
   simp only [cond_true,Option.bind_some,int_atInt,manyF]
   by_cases e:v[i] = (m:Int)
   ·have e1:(v[i] == (m:Int)) = true:=by simpa using e
    have e2:decide (v[i]>=(m:Int)) = true:=decide_eq_true (by omega)
    have e3:IntKind.i64.wrap (v[i] + 1) = ((m + 1:Nat):Int):=by rw [e,i64_id (by omega) (by omega)];omega
    have e4:(m:Int) + 1 = ((m + 1:Nat):Int):=by omega
    rw [e1] at h3 ⊢
    rw [e2,e3]
    simp only [cond_true] at h3 ⊢
    rw [e4] at h3 ⊢
    exact many15_loop v hv n (i + 1) (m + 1) (by omega) (by omega) (by omega) h3
   ·have e1:(v[i] == (m:Int)) = false:=by simpa using e
    have e2:decide (v[i]>=(m:Int)) = false:=decide_eq_false (by omega)
    rw [e1] at h3 ⊢
    rw [e2]
    simp only [cond_false] at h3 ⊢
    exact many15_loop v hv n (i + 1) m (by omega) (by omega) (by omega) h3
  ·have hd:decide ((i:Int) < (v.length:Int)) = false:=by simpa using hlt
   rw [hd,List.drop_eq_nil_of_le (by omega)]
   rfl
theorem many15_ok {k:Nat} (hk:1010<=k) {v:List Int} (hv:v.length<=1000) (hg:goodF v 0 = true):c117 k (encZ v) = r117 (manyF v 0):=by
 obtain ⟨k,rfl⟩:∃ j,k = j + 1:=⟨k - 1,by omega⟩
 rw [n117,encZ_length]
 exact many15_loop (k:=k) v hv k 0 0 (by omega) (by omega) (by omega) hg
def starts17 (p:Prg) (v:List Int):List Int:=clV v (whI p p.start)
theorem wh_inG {p:Prg} {v:List Int} (hn:v.length = nS p) (t:List Nd):∀ x ∈ whI p t,inG v.length x:=by
 intro x hx
 rw [hn]
 exact inG_in.2 ((whI_mem p t x).1 hx).1
end Go.Proofs.YthoecdnmokcfbaaGreat
/- Least ways. -/
set_option linter.unusedVariables false
set_option linter.unusedSimpArgs false
set_option maxRecDepth 8000
namespace Go.Proofs.YthoecdnmokcfbaaGreat
open Go.Dp
section
variable {k:Nat}
end
end Go.Proofs.YthoecdnmokcfbaaGreat
/- Stuck states,numbers of steps,paths. -/
set_option linter.unusedVariables false
set_option linter.unusedSimpArgs false
set_option maxRecDepth 8000
namespace Go.Proofs.YthoecdnmokcfbaaGreat
open Go.Dp
def chainB (p:Prg):Int->List Int->Bool
 | _,[]=>true
 | v,x :: l=>(nxL p v).contains x && chainB p x l
def pathB (p:Prg):List Int->Bool
 | []=>false
 | x :: l=>chainB p x l && hN p p.start x
def pathOK (p:Prg) (l:List Int):Bool:=decide (1<=l.length) && (decide (l.length<=200) && l.all (noOK p))
theorem chain_at {p:Prg} {l:List Int} {i:Nat} (h0:1<=i) (hi:i < l.length):chainB p (l[i - 1]'(by omega)) (l.drop i) = ((nxL p (l[i - 1]'(by omega))).contains l[i] && chainB p (l[i + 1 - 1]'(by omega)) (l.drop (i + 1))):=by
 rw [drop_cons hi,chainB]
 rfl
theorem ispath_loop {k:Nat} (w1 v1:Int) (l1 l2:List PV) (f:Int->Bool) (l:List (Int)) (hl:l.length<=100000) (hc:∀ x ∈ l,c63 k x w1 v1 l1 l2 = r63 (f x)):∀ (n i:Nat),l.length - i < n->i<=l.length->L124f63_1 k n (encZ l) w1 v1 l1 l2 (l.length:Int) (i:Int) = r124f63 (fixI f i (l.drop i))
 | 0,i,h,hi=>by omega
 | n + 1,i,h,hi=>by
  rw [sL124f63_1]
  by_cases hlt:i < l.length
  ·have hd:decide ((i:Int) < (l.length:Int)) = true:=by simpa using hlt
   have hnext:IntKind.i64.wrap ((i:Int) + 1) = ((i + 1:Nat):Int):=by rw [i64_id (by omega) (by omega)];omega
   rw [hd,encZ_lookup hlt,drop_cons hlt,hnext]
   simp only [cond_true,Option.bind_some,int_atInt]
   rw [hc _ (List.getElem_mem hlt)]
   simp only [R63_r,fixI]
   cases f l[i]
   ·exact ispath_loop w1 v1 l1 l2 f l hl hc n (i + 1) (by omega) (by omega)
   ·rfl
  ·have hd:decide ((i:Int) < (l.length:Int)) = false:=by simpa using hlt
   rw [hd,List.drop_eq_nil_of_le (by omega)]
   rfl
theorem ispath_idx {k:Nat} (hk:100010<=k) (w1 v1:Int) (l1 l2:List PV) (f:Int->Bool) (l:List (Int)) (hl:l.length<=100000) (hc:∀ x ∈ l,c63 k x w1 v1 l1 l2 = r63 (f x)):c124f63 (k + 1) (encZ l) w1 v1 l1 l2 = r124f63 (fixI f 0 l):=by
 rw [n124f63,encZ_length]
 exact ispath_loop (k:=k) w1 v1 l1 l2 f l hl hc k 0 (by omega) (by omega)
theorem ispath_ok {k:Nat} (hk:100010<=k) (w1 v1:Int) (l1 l2:List PV) (f:Int->Bool) (l:List (Int)) (hl:l.length<=100000) (hc:∀ x ∈ l,c63 k x w1 v1 l1 l2 = r63 (f x)):c62f63 (k + 2) (encZ l) w1 v1 l1 l2 = r62f63 (l.any f):=by
 rw [n62f63,ispath_idx (by omega) w1 v1 l1 l2 f l hl hc]
 simp only [R124f63p_r,fixI_ge]
theorem isPathI_loop {k:Nat} (hk:1000300<=k) {p:Prg} (hp:FitP p) (hs:smallP p = true) (l:List Int) (hl:l.length<=1000) (h0:0 < l.length) (hin:∀ x ∈ l,inS p x):∀ (n i:Nat),l.length - i < n->(h1:1<=i)->(hi:i<=l.length) ->
  L18_1 k n (encZ l) (i:Int) p.wide p.vars (encT p.start) (encCms p.cmds) = r18 (chainB p (l[i - 1]'(by omega)) (l.drop i) && hN p p.start l[0]) true
 | 0,i,hn,h1,hi=>by omega
 | n + 1,i,hn,h1,hi=>by
  have hst:=hp.st
  rw [sL18_1,encZ_length]
  by_cases hlt:i < l.length
  ·have hd:decide ((i:Int) < (l.length:Int)) = true:=by simpa using hlt
   have hnext:IntKind.i64.wrap ((i:Int) + 1) = ((i + 1:Nat):Int):=by rw [i64_id (by omega) (by omega)];omega
   have hprev:IntKind.i64.wrap ((i:Int) - 1) = ((i - 1:Nat):Int):=by rw [i64_id (by omega) (by omega)];omega
   have hx:=hin _ (List.getElem_mem (show i - 1 < l.length by omega))
   have hnl:=nxL_len hp (l[i - 1]'(by omega))
   rw [hd,hnext,hprev,encZ_lookup (l:=l) (i:=i - 1) (by omega),encZ_lookup hlt,chain_at h1 hlt]
   simp only [cond_true,Option.bind_some,int_atInt]
   rw [nextI_ok (by omega) hp hs hx]
   simp only [R66_r]
   rw [contains1_ok (by omega) _ (by omega)]
   simp only [R65_r]
   cases (nxL p (l[i - 1]'(by omega))).contains l[i]
   ·rfl
   ·simp only [Bool.not_true,cond_false,Bool.true_and]
    exact isPathI_loop hk hp hs l hl h0 hin n (i + 1) (by omega) (by omega) (by omega)
  ·have hd:decide ((i:Int) < (l.length:Int)) = false:=by simpa using hlt
   have ed:l.drop i = []:=List.drop_eq_nil_of_le (by omega)
   have hx:=hin _ (List.getElem_mem h0)
   have e0:lookP (encZ l) 0 = some (.int .i64 l[0]):=encZ_lookup (l:=l) (i:=0) h0
   rw [hd,ed,e0]
   simp only [cond_false,Option.bind_some,int_atInt,chainB,Bool.true_and]
   rw [stoI_ok (by omega) hs _ _ hx]
   simp only [R68_r]
   rw [holdsI_ok (by omega) p (small_good hs) _ _ p.start (by omega) (startK hs) _ (sto_ok hs hx)]
   simp only [R67_r]
   rfl
theorem isPathI_ok {k:Nat} (hk:1000700<=k) (p:Prg) (hp:FitP p) (l:List Int) (hl:l.length<=1000):c18 k p.wide p.vars (encT p.start) (encCms p.cmds) (encZ l) = r18 (pathOK p l && pathB p l) (pathOK p l):=by
 obtain ⟨k,rfl⟩:∃ j,k = j + 4:=⟨k - 4,by omega⟩
 rw [n18,encZ_length]
 unfold pathOK
 by_cases h1:1<=l.length
 ·rw [decide_eq_true h1,decide_eq_false (show ¬ (l.length:Int) < 1 by omega)]
  by_cases h2:l.length<=200
  ·rw [decide_eq_true h2,decide_eq_false (show ¬ (l.length:Int) > 200 by omega)]
   simp only [cond_false,Bool.true_and]
   rw [ispath_ok (k:=k + 1) (by omega) p.wide p.vars (encT p.start) (encCms p.cmds) (fun x=>!noOK p x) l (by omega) (fun x hx=>by
    rw [n63,isNo_ok (by omega) p hp]
    simp only [R64_r])]
   simp only [R62f63p_r]
   have e:l.any (fun x=>!noOK p x) = !(l.all (noOK p)):=by rw [List.any_eq_not_all_not];simp
   rw [e]
   cases ha:l.all (noOK p)
   ·rfl
   ·simp only [Bool.not_true,cond_false,Bool.true_and]
    rw [List.all_eq_true] at ha
    have hin:∀ x ∈ l,inS p x:=fun x hx=>(no_in (ha x hx)).2
    have hs:=(no_in (ha _ (List.getElem_mem (show 0 < l.length by omega)))).1
    have:=isPathI_loop (k:=k + 3) (by omega) hp hs l hl (by omega) hin (k + 3) 1 (by omega) (by omega) (by omega)
    have e1:L18_1 (k + 3) (k + 3) (encZ l) 1 p.wide p.vars (encT p.start) (encCms p.cmds) = _:=this
    rw [e1]
    cases l with
    | nil=>simp at h1
    | cons x l=>rfl
  ·rw [decide_eq_false h2,decide_eq_true (show (l.length:Int) > 200 by omega)]
   rfl
 ·rw [decide_eq_false h1,decide_eq_true (show (l.length:Int) < 1 by omega)]
  rfl
end Go.Proofs.YthoecdnmokcfbaaGreat
/- The states along a path of classes,and the least path of states through them. -/
set_option linter.unusedVariables false
set_option linter.unusedSimpArgs false
set_option maxRecDepth 8000
namespace Go.Proofs.YthoecdnmokcfbaaGreat
open Go.Dp
def nxS (p:Prg) (l:List Int):List Int:=putAllI [] (aftAll p l)
theorem nxS_mem (p:Prg) (l:List Int) (x:Int):x ∈ nxS p l ↔ ∃ y ∈ l,x ∈ nxL p y:=by
 rw [nxS,(putAllI_spec (aftAll p l) [] (by simp)).2,aftAll_mem]
 simp
structure SL (p:Prg) (l:List Int):Prop where
 lt:l.Pairwise (· < ·)
 is:∀ x ∈ l,inS p x
theorem SL.len {p:Prg} (hs:smallP p = true) {l:List Int} (h:SL p l):l.length<=32:=in_room hs h.lt h.is
theorem nxS_SL {p:Prg} (hp:FitP p) (hs:smallP p = true) {l:List Int} (h:SL p l):SL p (nxS p l) :=
 ⟨(putAllI_spec (aftAll p l) [] (by simp)).1,fun x hx=>let ⟨y,h1,h2⟩:=(nxS_mem p l x).1 hx;nxL_in hp hs (h.is y h1) x h2⟩
theorem SL.filter {p:Prg} {l:List Int} (h:SL p l) (f:Int->Bool):SL p (l.filter f):=⟨h.lt.filter f,fun x hx=>h.is x (List.mem_filter.1 hx).1⟩
def sel (v:List Int) (c:Int) (l:List Int):List Int:=l.filter fun x=>dAt v x == c
theorem sel_mem {v:List Int} {c x:Int} {l:List Int}:x ∈ sel v c l ↔ x ∈ l /\ dAt v x = c:=by simp [sel]
def alongF (p:Prg) (v:List Int):List Int->List Int->List (List Int)
 | _,[]=>[]
 | s,c :: path=>sel v c s :: alongF p v (nxS p (sel v c s)) path
def alongL (p:Prg) (v path:List Int):List (List Int):=alongF p v (whI p p.start) path
theorem alongF_len (p:Prg) (v:List Int):∀ (path s:List Int),(alongF p v s path).length = path.length
 | [],s=>rfl
 | c :: path,s=>by rw [alongF,List.length_cons,alongF_len p v path,List.length_cons]
theorem alongL_len (p:Prg) (v path:List Int):(alongL p v path).length = path.length:=alongF_len p v path _
theorem alongF_SL {p:Prg} (hp:FitP p) (hs:smallP p = true) (v:List Int):∀ (path s:List Int),SL p s->∀ l ∈ alongF p v s path,SL p l
 | [],s,h,l,hl=>by simp [alongF] at hl
 | c :: path,s,h,l,hl=>by
  rw [alongF] at hl
  rcases List.mem_cons.1 hl with rfl | hl
  ·exact h.filter _
  ·exact alongF_SL hp hs v path _ (nxS_SL hp hs (h.filter _)) l hl
theorem start_SL (p:Prg):SL p (whI p p.start):=⟨whN_lt p p.start _ _,fun x hx=>((whI_mem p p.start x).1 hx).1⟩
theorem alongL_SL {p:Prg} (hp:FitP p) (hs:smallP p = true) (v path:List Int):∀ l ∈ alongL p v path,SL p l:=alongF_SL hp hs v path _ (start_SL p)
theorem alongF_get (p:Prg) (v:List Int):∀ (path s:List Int) (k:Nat) (h:k < path.length),∃ s',(alongF p v s path)[k]? = some (sel v path[k] s') /\ (k = 0->s' = s) /\ ∀ j,k = j + 1->∃ g,(alongF p v s path)[j]? = some g /\ s' = nxS p g
 | [],s,k,h=>by simp at h
 | c :: path,s,0,h=>⟨s,rfl,fun _=>rfl,fun j hj=>by omega⟩
 | c :: path,s,k + 1,h=>by
  obtain ⟨s',h1,h2,h3⟩:=alongF_get p v path (nxS p (sel v c s)) k (by simpa using h)
  refine ⟨s',by rw [alongF,List.getElem?_cons_succ,h1];rfl,fun h=>by omega,fun j hj=>?_⟩
  obtain rfl:k = j:=by omega
  cases k with
  | zero=>exact ⟨sel v c s,rfl,h2 rfl⟩
  | succ k =>
   obtain ⟨g,h4,h5⟩:=h3 k rfl
   exact ⟨g,by rw [alongF,List.getElem?_cons_succ,h4],h5⟩
def Lnk (p:Prg):List (List Int)->Prop
 | []=>True
 | a :: l=>(∀ b,l.head? = some b->∀ y ∈ b,∃ x ∈ a,y ∈ nxL p x) /\ Lnk p l
theorem alongF_lnk (p:Prg) (v:List Int):∀ (path s:List Int),Lnk p (alongF p v s path)
 | [],s=>trivial
 | c :: path,s=>by
  rw [alongF]
  refine ⟨fun b hb y hy=>?_,alongF_lnk p v path _⟩
  cases path with
  | nil=>simp [alongF] at hb
  | cons d path =>
   simp only [alongF,List.head?_cons,Option.some.injEq] at hb
   subst hb
   exact (nxS_mem p _ y).1 (sel_mem.1 hy).1
def canF (p:Prg):List (List Int)->List (List Int)
 | []=>[]
 | a :: l=>(match (canF p l).head? with | none=>a | some b=>a.filter fun x=>meetI (nxL p x) b) :: canF p l
theorem canF_len (p:Prg):∀ (g:List (List Int)),(canF p g).length = g.length
 | []=>rfl
 | a :: l=>by rw [canF,List.length_cons,canF_len p l,List.length_cons]
theorem canF_cons (p:Prg) (a:List Int) (l:List (List Int)):∃ f:Int->Bool,canF p (a :: l) = a.filter f :: canF p l:=by
 rw [canF]
 split
 · exact ⟨fun _=>true,by rw [List.filter_eq_self.2 (fun _ _=>rfl)]⟩
 · exact ⟨_,rfl⟩
theorem canF_SL {p:Prg}:∀ (g:List (List Int)),(∀ l ∈ g,SL p l)->∀ l ∈ canF p g,SL p l
 | [],h,l,hl=>by simp [canF] at hl
 | a :: g,h,l,hl=>by
  obtain ⟨f,e⟩:=canF_cons p a g
  rw [e] at hl
  rcases List.mem_cons.1 hl with rfl | hl
  ·exact (h a (by simp)).filter f
  ·exact canF_SL g (fun l hl=>h l (by simp [hl])) l hl
theorem canF_ne (p:Prg):∀ (g:List (List Int)),Lnk p g->(∀ l ∈ g,l ≠ [])->∀ l ∈ canF p g,l ≠ []
 | [],_,h,l,hl=>by simp [canF] at hl
 | [a],_,h,l,hl=>by
  simp [canF] at hl
  subst hl
  exact h _ (by simp)
 | a :: b :: g,hL,h,l,hl=>by
  have ih:=canF_ne p (b :: g) hL.2 (fun l hl=>h l (by simp [hl]))
  have hc:canF p (a :: b :: g) = (match (canF p (b :: g)).head? with | none=>a | some b'=>a.filter fun x=>meetI (nxL p x) b') :: canF p (b :: g):=by rw [canF]
  rw [hc] at hl
  rcases List.mem_cons.1 hl with rfl | hl
  ·obtain ⟨f,e⟩:=canF_cons p b g
   rw [e]
   simp only [List.head?_cons]
   have hne:=ih (b.filter f) (by rw [e];simp)
   cases hb:b.filter f with
   | nil=>exact absurd hb hne
   | cons y ys =>
    have hy:y ∈ b.filter f:=by rw [hb];simp
    obtain ⟨x,hx,hxy⟩:=hL.1 b rfl y (List.mem_filter.1 hy).1
    intro h0
    have hx2:x ∈ a.filter (fun x=>meetI (nxL p x) (y :: ys)):=List.mem_filter.2 ⟨hx,(meetI_iff _ _).2 ⟨y,hxy,by simp⟩⟩
    rw [h0] at hx2
    cases hx2
  ·exact ih l hl
def Cn (p:Prg):List (List Int)->Prop
 | []=>True
 | a :: l=>(∀ b,l.head? = some b->∀ x ∈ a,∃ y ∈ b,y ∈ nxL p x) /\ Cn p l
theorem canF_cn (p:Prg):∀ (g:List (List Int)),Cn p (canF p g)
 | []=>trivial
 | a :: g=>by
  have ih:=canF_cn p g
  rw [canF]
  refine ⟨fun b hb x hx=>?_,ih⟩
  rw [hb] at hx
  obtain ⟨y,h1,h2⟩:=(meetI_iff _ _).1 (List.mem_filter.1 hx).2
  exact ⟨y,h2,h1⟩
def stepP (p:Prg) (x:Int) (c:List Int):Int:=(c.find? fun y=>(nxL p x).contains y).getD 0
def goP (p:Prg):Int->List (List Int)->List Int
 | _,[]=>[]
 | x,c :: l=>stepP p x c :: goP p (stepP p x c) l
def realL (p:Prg) (g:List (List Int)):List Int:=match canF p g with
 | []=>[]
 | c :: l=>c.headD 0 :: goP p (c.headD 0) l
theorem goP_len (p:Prg):∀ (l:List (List Int)) (x:Int),(goP p x l).length = l.length
 | [],x=>rfl
 | c :: l,x=>by rw [goP,List.length_cons,goP_len p l,List.length_cons]
theorem find_some {c:List Int} {f:Int->Bool} (h:∃ y ∈ c,f y = true):(c.find? f).getD 0 ∈ c /\ f ((c.find? f).getD 0) = true:=by
 cases hf:c.find? f with
 | none =>
  obtain ⟨y,h1,h2⟩:=h
  have:=List.find?_eq_none.1 hf y h1
  rw [h2] at this
  exact absurd rfl this
 | some y=>exact ⟨List.mem_of_find?_eq_some hf,List.find?_some hf⟩
theorem stepP_mem {p:Prg} {x:Int} {c:List Int} (h:∃ y ∈ c,y ∈ nxL p x):stepP p x c ∈ c /\ stepP p x c ∈ nxL p x:=by
 obtain ⟨y,h1,h2⟩:=h
 have:=find_some (c:=c) (f:=fun y=>(nxL p x).contains y) ⟨y,h1,by simpa using h2⟩
 exact ⟨this.1,List.contains_iff_mem.1 this.2⟩
def Each:List Int->List (List Int)->Prop
 | [],[]=>True
 | y :: ys,c :: l=>y ∈ c /\ Each ys l
 | _,_=>False
theorem goP_spec (p:Prg):∀ (l:List (List Int)) (c0:List Int) (x:Int),Cn p (c0 :: l)->x ∈ c0->chainB p x (goP p x l) = true /\ Each (goP p x l) l
 | [],c0,x,_,_=>⟨rfl,trivial⟩
 | c :: l,c0,x,h,hx=>by
  obtain ⟨h1,h2⟩:=stepP_mem (h.1 c rfl x hx)
  obtain ⟨h3,h4⟩:=goP_spec p l c (stepP p x c) h.2 h1
  rw [goP]
  exact ⟨by rw [chainB,h3,Bool.and_true];simpa using h2,h1,h4⟩
theorem each_all {P:Int->Prop}:∀ (ys:List Int) (l:List (List Int)),Each ys l->(∀ c ∈ l,∀ x ∈ c,P x)->∀ y ∈ ys,P y
 | [],l,_,_,y,hy=>by cases hy
 | y0 :: ys,[],h,_,y,hy=>h.elim
 | y0 :: ys,c :: l,h,hc,y,hy=>by
  rcases List.mem_cons.1 hy with rfl | hy
  ·exact hc c (by simp) _ h.1
  ·exact each_all ys l h.2 (fun c' h'=>hc c' (by simp [h'])) y hy
theorem each_cls (p:Prg) (v:List Int):∀ (path s ys:List Int),Each ys (canF p (alongF p v s path))->ys.map (dAt v) = path
 | [],s,[],_=>rfl
 | [],s,y :: ys,h=>h.elim
 | c :: path,s,[],h=>by
  obtain ⟨f,e⟩:=canF_cons p (sel v c s) (alongF p v (nxS p (sel v c s)) path)
  rw [alongF,e] at h
  exact h.elim
 | c :: path,s,y :: ys,h=>by
  obtain ⟨f,e⟩:=canF_cons p (sel v c s) (alongF p v (nxS p (sel v c s)) path)
  rw [alongF,e] at h
  rw [List.map_cons,each_cls p v path _ ys h.2,(sel_mem.1 (List.mem_filter.1 h.1).1).2]
def failL (g:List (List Int)):Int:=fixI List.isEmpty 0 g
theorem failL_none {g:List (List Int)} (h:¬ 0<=failL g):∀ l ∈ g,l ≠ []:=by
 rcases fixI_spec List.isEmpty g 0 with ⟨h1,h2⟩ | ⟨j,hj,h1,h2,h3⟩
 ·intro l hl h0
  have:=h2 l hl
  rw [h0] at this
  cases this
 ·exfalso
  apply h
  unfold failL
  rw [h1]
  omega
theorem failL_some {g:List (List Int)} (h:0<=failL g):∃ j,∃ hj:j < g.length,failL g = (j:Int) /\ g[j] = [] /\ ∀ i (hi:i < j),g[i]'(by omega) ≠ []:=by
 rcases fixI_spec List.isEmpty g 0 with ⟨h1,h2⟩ | ⟨j,hj,h1,h2,h3⟩
 ·unfold failL at h
  rw [h1] at h
  omega
 ·refine ⟨j,hj,by unfold failL;rw [h1,Nat.zero_add],by simpa using h2,fun i hi h0=>?_⟩
  have:=h3 i hi
  rw [h0] at this
  cases this
theorem failL_rng (g:List (List Int)):-1<=failL g /\ failL g < (g.length:Int):=by
 by_cases h:0<=failL g
 ·obtain ⟨j,hj,h1,_⟩:=failL_some h
  omega
 ·rcases fixI_spec List.isEmpty g 0 with ⟨h1,_⟩ | ⟨j,hj,h1,_⟩
  ·unfold failL;rw [h1];omega
  ·unfold failL at h;rw [h1] at h;omega
theorem realL_ok {p:Prg} (hp:FitP p) (hs:smallP p = true) (v path:List Int) (h0:path ≠ []) (hf:¬ 0<=failL (alongL p v path)) :
  ∃ x l,realL p (alongL p v path) = x :: l /\ chainB p x l = true /\ hN p p.start x = true /\ (∀ y ∈ x :: l,inS p y) /\ (x :: l).map (dAt v) = path /\ Each (x :: l) (canF p (alongL p v path)):=by
 have hne:=canF_ne p (alongL p v path) (alongF_lnk p v path _) (failL_none hf)
 have hcn:=canF_cn p (alongL p v path)
 have hsl:=canF_SL (alongL p v path) (alongL_SL hp hs v path)
 cases path with
 | nil=>exact absurd rfl h0
 | cons c path =>
  obtain ⟨f,e⟩:=canF_cons p (sel v c (whI p p.start)) (alongF p v (nxS p (sel v c (whI p p.start))) path)
  have e':canF p (alongL p v (c :: path)) = (sel v c (whI p p.start)).filter f :: canF p (alongF p v (nxS p (sel v c (whI p p.start))) path):=e
  rw [e'] at hne hcn hsl
  have h1:=hne _ (List.mem_cons_self ..)
  obtain ⟨y,ys,hy⟩:∃ y ys,(sel v c (whI p p.start)).filter f = y :: ys:=by
   cases hh:(sel v c (whI p p.start)).filter f with
   | nil=>exact absurd hh h1
   | cons y ys=>exact ⟨y,ys,rfl⟩
  have hym:y ∈ (sel v c (whI p p.start)).filter f:=by rw [hy];simp
  obtain ⟨g1,g2⟩:=goP_spec p _ _ y hcn hym
  have hE:Each (y :: goP p y (canF p (alongF p v (nxS p (sel v c (whI p p.start))) path))) (canF p (alongL p v (c :: path))):=by rw [e'];exact ⟨hym,g2⟩
  refine ⟨y,goP p y (canF p (alongF p v (nxS p (sel v c (whI p p.start))) path)),?_,g1,?_,?_,each_cls p v _ _ _ hE,hE⟩
  ·unfold realL
   rw [e',hy]
   rfl
  ·exact ((whI_mem p p.start y).1 (sel_mem.1 (List.mem_filter.1 hym).1).1).2
  ·refine each_all _ _ hE fun c hc x hx=>?_
   rw [e'] at hc
   exact (hsl c hc).is x hx
theorem realL_len (p:Prg) (g:List (List Int)):(realL p g).length = g.length:=by
 have:=canF_len p g
 unfold realL
 split
 · rename_i h;rw [h] at this;simpa using this
 · rename_i c l h;rw [h] at this;rw [List.length_cons,goP_len,<- this,List.length_cons]
theorem find_comm:∀ {a b:List Int},a.Pairwise (· < ·)->b.Pairwise (· < ·)->a.find? (fun x=>b.contains x) = b.find? (fun x=>a.contains x):=by
 intro a b ha hb
 have least:∀ {a b:List Int} {x:Int},a.Pairwise (· < ·)->a.find? (fun x=>b.contains x) = some x->x ∈ a /\ x ∈ b /\ ∀ y ∈ a,y ∈ b->x<=y:=by
  intro a b x ha h
  obtain ⟨h1,l1,l2,rfl,h2⟩:=List.find?_eq_some_iff_append.1 h
  refine ⟨by simp,by simpa using h1,fun y hy hyb=>?_⟩
  rcases List.mem_append.1 hy with hy | hy
  ·have:=h2 y hy
   simp [hyb] at this
  ·rcases List.mem_cons.1 hy with rfl | hy
   ·exact Int.le_refl _
   ·have:=(List.pairwise_append.1 ha).2.1
    have:=(List.pairwise_cons.1 this).1 y hy
    omega
 cases h1:a.find? (fun x=>b.contains x) with
 | none =>
  symm
  rw [List.find?_eq_none] at h1 ⊢
  intro x hx hxa
  exact h1 x (by simpa using hxa) (by simpa using hx)
 | some x =>
  obtain ⟨h2,h3,h4⟩:=least ha h1
  cases h5:b.find? (fun x=>a.contains x) with
  | none =>
   rw [List.find?_eq_none] at h5
   exact absurd (by simpa using h2) (h5 x h3)
  | some y =>
   obtain ⟨h6,h7,h8⟩:=least hb h5
   have a1:=h4 y h7 h6
   have a2:=h8 x h3 h2
   rw [show x = y by omega]
def onL (p:Prg) (v:List Int) (c d:Int):List Int:=(stV v c).filter fun x=>(nxL p x).any fun y=>dAt v y == d
theorem dead_facts {p:Prg} (hp:FitP p) (hs:smallP p = true) {v:List Int} (hn:v.length = nS p) {path:List Int} {j:Nat} (hj:j + 1 < path.length) {d:List Int} (hd:(alongL p v path)[j]? = some d) (h0:(alongL p v path)[j + 1]? = some []) :
  (∀ x ∈ d,x ∈ stV v path[j]) /\ ∀ x ∈ d,x ∉ onL p v path[j] path[j + 1]:=by
 obtain ⟨s',h1,h2,h3⟩:=alongF_get p v path (whI p p.start) (j + 1) hj
 obtain ⟨g,h4,h5⟩:=h3 j rfl
 have e1:g = d:=by
  have:=h4.symm.trans hd
  injection this
 subst e1
 have e2:sel v path[j + 1] s' = []:=by
  have:=h1.symm.trans h0
  injection this
 obtain ⟨s2,h6,_,_⟩:=alongF_get p v path (whI p p.start) j (by omega)
 have e3:g = sel v path[j] s2:=by
  have:=h4.symm.trans h6
  injection this
 have hsl:=alongL_SL hp hs v path g (List.mem_of_getElem? hd)
 refine ⟨fun x hx=>stV_in.2 ⟨by rw [hn];exact inG_in.2 (hsl.is x hx),?_⟩,fun x hx ho=>?_⟩
 ·rw [e3] at hx
  exact (sel_mem.1 hx).2
 ·obtain ⟨y,hy,hc⟩:=List.any_eq_true.1 (List.mem_filter.1 ho).2
  have:y ∈ sel v path[j + 1] s':=sel_mem.2 ⟨by rw [h5];exact (nxS_mem p g y).2 ⟨x,hx,hy⟩,by simpa using hc⟩
  rw [e2] at this
  cases this
end Go.Proofs.YthoecdnmokcfbaaGreat
/- The reference's ways through a graph;its graph of classes. -/
set_option linter.unusedVariables false
set_option linter.unusedSimpArgs false
set_option maxRecDepth 8000
namespace Go.Proofs.YthoecdnmokcfbaaGreat
open Go.Dp
section
variable {k:Nat} {G:List PV} (h:Int)
end
end Go.Proofs.YthoecdnmokcfbaaGreat
/- The reference's paths;the draws of paths. -/
set_option linter.unusedVariables false
set_option linter.unusedSimpArgs false
set_option maxRecDepth 8000
namespace Go.Proofs.YthoecdnmokcfbaaGreat
open Go.Dp
theorem nxL_ne (p:Prg) (x:Int):nxL p x ≠ []:=by
 intro h
 have key:∀ y,¬ y ∈ nxL p x:=by rw [h];simp
 by_cases hb:∃ c ∈ p.cmds,hN p c.wh x = true
 ·obtain ⟨c,hc,hh⟩:=hb
  exact key _ (nxL_mem.2 (.inl ⟨c,hc,hh,rfl⟩))
 ·refine key x (nxL_mem.2 (.inr ⟨fun c hc=>?_,rfl⟩))
  cases hh:hN p c.wh x
  ·rfl
  ·exact absurd ⟨c,hc,hh⟩ hb
end Go.Proofs.YthoecdnmokcfbaaGreat
/- FnCovered: paths of states are paths of classes. -/
set_option linter.unusedVariables false
set_option linter.unusedSimpArgs false
set_option maxRecDepth 8000
namespace Go.Proofs.YthoecdnmokcfbaaGreat
open Go.Dp
def startsR (p:Prg) (v:List Int):List Int:=bif gsB p v then starts17 p v else []
theorem ClassStartsS_ok {k:Nat} (hk:1000700<=k) (p:Prg) (hp:FitP p) {v:List Int} (hv:OkV v):c13 k p.wide p.vars (encT p.start) (encCms p.cmds) (encZ v) = r13 (encZ (startsR p v)) (gsB p v):=by
 obtain ⟨k,rfl⟩:∃ j,k = j + 1:=⟨k - 1,by omega⟩
 have hvl:=hv.len
 have hst:=hp.st
 rw [n13,goodSightS_ok (by omega) p hp v (by omega)]
 simp only [R51_r,startsR]
 cases hgs:gsB p v
 · rfl
 obtain ⟨s1,s2,s3⟩:=gs_small hgs
 have hwl:=whI_len s1 p.start
 simp only [Bool.not_true,cond_false,cond_true]
 rw [those_ok (by omega) s1 _ _ p.start (by omega) (startK s1)]
 simp only [R59_r]
 rw [cl17_ok (by omega) hv _ (wh_inG s3 p.start) (by omega)]
 simp only [R58_r]
 rfl
theorem sameLists_loop {k:Nat} (hk:1000010<=k) (g:List (List Int)) (hl:g.length<=1000) (hr:∀ z ∈ g,z.length<=1000000):∀ (n i:Nat),g.length - i < n->i<=g.length->L17_1 k n (encZZ g) (encZZ g) (g.length:Int) (i:Int) = r17 true
 | 0,i,h,hi=>by omega
 | n + 1,i,h,hi=>by
  rw [sL17_1]
  by_cases hlt:i < g.length
  ·have hd:decide ((i:Int) < (g.length:Int)) = true:=by simpa using hlt
   have hnext:IntKind.i64.wrap ((i:Int) + 1) = ((i + 1:Nat):Int):=by rw [i64_id (by omega) (by omega)];omega
   rw [hd,lookP_nat,encZZ_get,List.getElem?_eq_getElem hlt,hnext]
   simp only [cond_true,Option.map_some,Option.bind_some,row_atRow]
   rw [sameInts_ok hk _ _ (hr _ (List.getElem_mem hlt))]
   simp only [R16_r,decide_true,Bool.not_true,cond_false]
   exact sameLists_loop hk g hl hr n (i + 1) (by omega) (by omega)
  ·have hd:decide ((i:Int) < (g.length:Int)) = false:=by simpa using hlt
   rw [hd]
   rfl
theorem sameLists_ok {k:Nat} (hk:1000020<=k) (g:List (List Int)) (hl:g.length<=1000) (hr:∀ z ∈ g,z.length<=1000000):c17 k (encZZ g) (encZZ g) = r17 true:=by
 obtain ⟨k,rfl⟩:∃ j,k = j + 1:=⟨k - 1,by omega⟩
 have e:(((encZZ g).length:Int) != ((encZZ g).length:Int)) = false:=bne_self_eq_false _
 rw [n17,e,encZZ_length]
 exact sameLists_loop (k:=k) (by omega) g hl hr k 0 (by omega) (by omega)
def inN (n:Int) (x:Int):Bool:=decide (0<=x) && decide (x < n)
def pcOK (p:Prg) (v path:List Int):Bool:=gsB p v && ((decide (1<=path.length) && decide (path.length<=200)) && path.all (inN (nS p:Int)))
def pcR (p:Prg) (v path:List Int):List Int:=bif pcOK p v path then path.map (dAt v) else []
theorem pathCI_loop {k:Nat} (hk:1<=k) {p:Prg} (hs:smallP p = true) (l1 l2:List PV) {v:List Int} (hn:v.length = nS p) (path:List Int) (hl:path.length<=200):∀ (n i:Nat) (o:List Int),path.length - i < n->i<=path.length->o.length<=i ->
  L8_1 k n o.length (encZ path) (path.length:Int) (i:Int) p.wide p.vars l1 l2 (encZ v) (encZ o) = r8 (encZ (bif (path.drop i).all (inN (nS p:Int)) then o ++ (path.drop i).map (dAt v) else [])) ((path.drop i).all (inN (nS p:Int)))
 | 0,i,o,h,hi,ho=>by omega
 | n + 1,i,o,h,hi,ho=>by
  rw [sL8_1,encZ_tk]
  by_cases hlt:i < path.length
  ·have hd:decide ((i:Int) < (path.length:Int)) = true:=by simpa using hlt
   have hnext:IntKind.i64.wrap ((i:Int) + 1) = ((i + 1:Nat):Int):=by rw [i64_id (by omega) (by omega)];omega
   rw [hd,encZ_lookup hlt,drop_cons hlt,hnext,nSI_ok hk hs]
   simp only [cond_true,Option.bind_some,int_atInt,R50_r,List.all_cons,List.map_cons]
   by_cases h0:path[i] < 0
   ·have e1:decide (path[i] < 0) = true:=by simpa using h0
    have e2:inN (nS p:Int) path[i] = false:=by unfold inN;rw [decide_eq_false (by omega)];rfl
    rw [e1,e2]
    rfl
   ·have e1:decide (path[i] < 0) = false:=by simpa using h0
    rw [e1]
    simp only [cond_false]
    by_cases h1:path[i]>=(nS p:Int)
    ·have e3:decide (path[i]>=(nS p:Int)) = true:=by simpa using h1
     have e2:inN (nS p:Int) path[i] = false:=by unfold inN;rw [decide_eq_true (by omega),decide_eq_false (by omega)];rfl
     rw [e3,e2]
     rfl
    ·have e3:decide (path[i]>=(nS p:Int)) = false:=by simpa using h1
     have e2:inN (nS p:Int) path[i] = true:=by unfold inN;rw [decide_eq_true (by omega),decide_eq_true (by omega)];rfl
     rw [e3,e2,lookV (by omega) (by omega)]
     simp only [cond_false,Option.bind_some,int_atInt,Bool.true_and]
     rw [lim_ok (by omega) (by omega),encZ_snoc]
     have:=pathCI_loop hk hs l1 l2 hn path hl n (i + 1) (o ++ [dAt v path[i]]) (by omega) (by omega) (by simp;omega)
     rw [List.length_append,List.append_assoc] at this
     exact this
  ·have hd:decide ((i:Int) < (path.length:Int)) = false:=by simpa using hlt
   rw [hd,List.drop_eq_nil_of_le (by omega)]
   simp
theorem pathCI_ok {k:Nat} (hk:1000500<=k) (p:Prg) (hp:FitP p) {v:List Int} (hv:OkV v) (path:List Int):c8 k p.wide p.vars (encT p.start) (encCms p.cmds) (encZ v) (encZ path) = r8 (encZ (pcR p v path)) (pcOK p v path):=by
 obtain ⟨k,rfl⟩:∃ j,k = j + 1:=⟨k - 1,by omega⟩
 have hvl:=hv.len
 rw [n8,goodSightI_ok (by omega) p hp v (by omega),encZ_length]
 simp only [R49_r,pcR,pcOK]
 cases hgs:gsB p v
 ·rfl
 obtain ⟨s1,s2,s3⟩:=gs_small hgs
 simp only [Bool.not_true,cond_false,Bool.true_and]
 by_cases h1:1<=path.length
 ·rw [decide_eq_false (by omega:¬ (path.length:Int) < 1),decide_eq_true h1]
  simp only [cond_false,Bool.true_and]
  by_cases h2:path.length<=200
  ·rw [decide_eq_false (by omega:¬ (path.length:Int) > 200),decide_eq_true h2]
   simp only [cond_false,Bool.true_and]
   have:=pathCI_loop (k:=k) (by omega) s1 (encT p.start) (encCms p.cmds) s3 path h2 k 0 [] (by omega) (by omega) (by simp)
   rw [List.drop_zero,List.nil_append] at this
   exact this
  ·rw [decide_eq_true (by omega:(path.length:Int) > 200),decide_eq_false h2]
   rfl
 ·rw [decide_eq_true (by omega:(path.length:Int) < 1),decide_eq_false h1]
  rfl
theorem all1_loop {k:Nat} (hk:1<=k) (l:List Int) (hl:l.length<=1000) (b:Int):∀ (n i:Nat),l.length - i < n->i<=l.length->L53_1 k n 0 (b - 1) (encZ l) (l.length:Int) (i:Int) = r53 ((l.drop i).all (inN b))
 | 0,i,h,hi=>by omega
 | n + 1,i,h,hi=>by
  rw [sL53_1]
  by_cases hlt:i < l.length
  ·have hd:decide ((i:Int) < (l.length:Int)) = true:=by simpa using hlt
   have hnext:IntKind.i64.wrap ((i:Int) + 1) = ((i + 1:Nat):Int):=by rw [i64_id (by omega) (by omega)];omega
   have e:(decide (0<=l[i]) && decide (l[i]<=b - 1)) = inN b l[i]:=by
    unfold inN
    congr 1
    rw [decide_eq_decide]
    omega
   rw [hd,encZ_lookup hlt,drop_cons hlt,hnext]
   simp only [cond_true,Option.bind_some,int_atInt,List.all_cons]
   rw [in_ok hk,e]
   simp only [R52_r]
   cases inN b l[i]
   ·rfl
   ·exact all1_loop hk l hl b n (i + 1) (by omega) (by omega)
  ·have hd:decide ((i:Int) < (l.length:Int)) = false:=by simpa using hlt
   rw [hd,List.drop_eq_nil_of_le (by omega)]
   rfl
theorem all1_ok {k:Nat} (hk:1010<=k) (l:List Int) (hl:l.length<=1000) (b:Int):c53 k (encZ l) 0 (b - 1) = r53 (l.all (inN b)):=by
 obtain ⟨k,rfl⟩:∃ j,k = j + 1:=⟨k - 1,by omega⟩
 rw [n53,encZ_length]
 exact all1_loop (k:=k) (by omega) l hl b k 0 (by omega) (by omega)
end Go.Proofs.YthoecdnmokcfbaaGreat
/- Both sides' states along a path of classes,and where it fails. -/
set_option linter.unusedVariables false
set_option linter.unusedSimpArgs false
set_option maxRecDepth 8000
namespace Go.Proofs.YthoecdnmokcfbaaGreat
open Go.Dp
def cpathB (p:Prg) (v path:List Int) (most:Int):Bool:=gsB p v && (decide (1<=path.length) && (decide ((path.length:Int)<=most) && path.all (inN (manyF v 0))))
theorem cpath_loop {k:Nat} (m:Int) (f:Int->Bool) (l:List (Int)) (hl:l.length<=100000) (hc:∀ x ∈ l,c152 k x m = r152 (f x)):∀ (n i:Nat),l.length - i < n->i<=l.length->L124f152_1 k n (encZ l) m (l.length:Int) (i:Int) = r124f152 (fixI f i (l.drop i))
 | 0,i,h,hi=>by omega
 | n + 1,i,h,hi=>by
  rw [sL124f152_1]
  by_cases hlt:i < l.length
  ·have hd:decide ((i:Int) < (l.length:Int)) = true:=by simpa using hlt
   have hnext:IntKind.i64.wrap ((i:Int) + 1) = ((i + 1:Nat):Int):=by rw [i64_id (by omega) (by omega)];omega
   rw [hd,encZ_lookup hlt,drop_cons hlt,hnext]
   simp only [cond_true,Option.bind_some,int_atInt]
   rw [hc _ (List.getElem_mem hlt)]
   simp only [R152_r,fixI]
   cases f l[i]
   ·exact cpath_loop m f l hl hc n (i + 1) (by omega) (by omega)
   ·rfl
  ·have hd:decide ((i:Int) < (l.length:Int)) = false:=by simpa using hlt
   rw [hd,List.drop_eq_nil_of_le (by omega)]
   rfl
theorem cpath_idx {k:Nat} (hk:100010<=k) (m:Int) (f:Int->Bool) (l:List (Int)) (hl:l.length<=100000) (hc:∀ x ∈ l,c152 k x m = r152 (f x)):c124f152 (k + 1) (encZ l) m = r124f152 (fixI f 0 l):=by
 rw [n124f152,encZ_length]
 exact cpath_loop (k:=k) m f l hl hc k 0 (by omega) (by omega)
theorem cpath_ok {k:Nat} (hk:100010<=k) (m:Int) (f:Int->Bool) (l:List (Int)) (hl:l.length<=100000) (hc:∀ x ∈ l,c152 k x m = r152 (f x)):c62f152 (k + 2) (encZ l) m = r62f152 (l.any f):=by
 rw [n62f152,cpath_idx (by omega) m f l hl hc]
 simp only [R124f152p_r,fixI_ge]
theorem isClassPath_ok {k:Nat} (hk:1000600<=k) (p:Prg) (hp:FitP p) {v:List Int} (hv:OkV v) (path:List Int) (hl:path.length<=5000) (most:Int):c91 k p.wide p.vars (encT p.start) (encCms p.cmds) (encZ v) (encZ path) most = r91 (cpathB p v path most):=by
 obtain ⟨k,rfl⟩:∃ j,k = j + 4:=⟨k - 4,by omega⟩
 have hvl:=hv.len
 rw [n91,goodSightI_ok (by omega) p hp v (by omega),encZ_length]
 simp only [R49_r,cpathB]
 cases hgs:gsB p v
 ·rfl
 obtain ⟨s1,s2,s3⟩:=gs_small hgs
 simp only [Bool.not_true,cond_false,Bool.true_and]
 by_cases h1:1<=path.length
 ·rw [decide_eq_true h1,decide_eq_false (show ¬ (path.length:Int) < 1 by omega)]
  by_cases h2:(path.length:Int)<=most
  ·rw [decide_eq_true h2,decide_eq_false (show ¬ (path.length:Int) > most by omega)]
   simp only [cond_false,Bool.true_and]
   rw [classes_ok (by omega) (by omega) (nn_of s1 s3) s2]
   simp only [R116_r]
   rw [cpath_ok (k:=k + 1) (by omega) (manyF v 0) (fun x=>!inN (manyF v 0) x) path (by omega) (fun x hx=>by
    rw [n152,inN]
    by_cases a:x < 0
    ·rw [decide_eq_true a,decide_eq_false (show ¬ 0<=x by omega)];rfl
    ·rw [decide_eq_false a,decide_eq_true (show 0<=x by omega)]
     simp only [cond_false,Bool.true_and]
     by_cases b:x < manyF v 0
     ·rw [decide_eq_true b,decide_eq_false (show ¬ x>=manyF v 0 by omega)];rfl
     ·rw [decide_eq_false b,decide_eq_true (show x>=manyF v 0 by omega)];rfl)]
   simp only [R62f152p_r]
   have e:path.any (fun x=>!inN (manyF v 0) x) = !(path.all (inN (manyF v 0))):=by rw [List.any_eq_not_all_not];simp
   rw [e,Bool.not_not]
  ·rw [decide_eq_false h2,decide_eq_true (show (path.length:Int) > most by omega)]
   rfl
 ·rw [decide_eq_false h1,decide_eq_true (show (path.length:Int) < 1 by omega)]
  rfl
theorem l19Classes_ok {k:Nat} (hk:1020<=k) {v:List Int} (hv:OkV v) (hg:goodF v 0 = true) (l:List Int) (hl:l.length<=1000):c156 k (encZ v) (encZ l) = r156 (l.all (inN (manyF v 0))):=by
 obtain ⟨k,rfl⟩:∃ j,k = j + 1:=⟨k - 1,by omega⟩
 have hvl:=hv.len
 have hm:=many_le hg
 rw [n156,many15_ok (by omega) (by omega) hg]
 simp only [R117_r]
 rw [i64_id (by omega) (by omega),all1_ok (by omega) l hl]
 simp only [R53_r]
theorem l19Path_ok {k:Nat} (hk:1000600<=k) (p:Prg) (hp:FitP p) {v:List Int} (hv:OkV v) (path:List Int) (hl:path.length<=1000):c93 k p.wide p.vars (encT p.start) (encCms p.cmds) (encZ v) (encZ path) = r93 (cpathB p v path 200):=by
 obtain ⟨k,rfl⟩:∃ j,k = j + 1:=⟨k - 1,by omega⟩
 have hvl:=hv.len
 rw [n93,goodSightS_ok (by omega) p hp v (by omega),encZ_length]
 simp only [R51_r,cpathB]
 cases hgs:gsB p v
 ·rfl
 obtain ⟨s1,s2,s3⟩:=gs_small hgs
 simp only [cond_true,Bool.true_and]
 rw [in_ok (by omega)]
 simp only [R52_r]
 have e:(decide ((1:Int)<=(path.length:Int)) && decide ((path.length:Int)<=200)) = (decide (1<=path.length) && decide ((path.length:Int)<=200)):=by
  congr 1;rw [decide_eq_decide];omega
 rw [e,<- Bool.and_assoc]
 cases (decide (1<=path.length) && decide ((path.length:Int)<=200))
 ·rfl
 simp only [cond_true,Bool.true_and]
 rw [l19Classes_ok (by omega) hv s2 path hl]
 simp only [R156_r]
theorem cpath_facts {p:Prg} {v path:List Int} {most:Int} (h:cpathB p v path most = true):gsB p v = true /\ 1<=path.length /\ (path.length:Int)<=most /\ path.all (inN (manyF v 0)) = true:=by
 simpa [cpathB] using h
theorem nsel_loop {k:Nat} (l0:List PV) (c:Int) (f:Int->Bool) (l:List (Int)) (hl:l.length<=100000) (hc:∀ x ∈ l,c159 k x l0 c = r159 (f x)):∀ (n i:Nat),l.length - i < n->i<=l.length->L124f159_1 k n (encZ l) l0 c (l.length:Int) (i:Int) = r124f159 (fixI f i (l.drop i))
 | 0,i,h,hi=>by omega
 | n + 1,i,h,hi=>by
  rw [sL124f159_1]
  by_cases hlt:i < l.length
  ·have hd:decide ((i:Int) < (l.length:Int)) = true:=by simpa using hlt
   have hnext:IntKind.i64.wrap ((i:Int) + 1) = ((i + 1:Nat):Int):=by rw [i64_id (by omega) (by omega)];omega
   rw [hd,encZ_lookup hlt,drop_cons hlt,hnext]
   simp only [cond_true,Option.bind_some,int_atInt]
   rw [hc _ (List.getElem_mem hlt)]
   simp only [R159_r,fixI]
   cases f l[i]
   ·exact nsel_loop l0 c f l hl hc n (i + 1) (by omega) (by omega)
   ·rfl
  ·have hd:decide ((i:Int) < (l.length:Int)) = false:=by simpa using hlt
   rw [hd,List.drop_eq_nil_of_le (by omega)]
   rfl
theorem nsel_idx {k:Nat} (hk:100010<=k) (l0:List PV) (c:Int) (f:Int->Bool) (l:List (Int)) (hl:l.length<=100000) (hc:∀ x ∈ l,c159 k x l0 c = r159 (f x)):c124f159 (k + 1) (encZ l) l0 c = r124f159 (fixI f 0 l):=by
 rw [n124f159,encZ_length]
 exact nsel_loop (k:=k) l0 c f l hl hc k 0 (by omega) (by omega)
theorem nsel_del {k:Nat} (l0:List PV) (c:Int) (f:Int->Bool) (s:List Int) (hl:s.length<=100000) (hc:∀ x ∈ s,c159 k x l0 c = r159 (f x)):∀ (n i j:Nat) (xs:List Int),s.length - j < n->j<=s.length->i<=j->xs.length = s.length->xs.take i = (s.take j).filter (fun x=>!f x)->xs.drop j = s.drop j ->
  L146f159_1 k n s.length l0 c (i:Int) (j:Int) (encZ xs) = r146f159 (encZ (s.filter fun x=>!f x))
 | 0,i,j,xs,h,hj,hi,hx,h1,h2=>by omega
 | n + 1,i,j,xs,h,hj,hi,hx,h1,h2=>by
  rw [sL146f159_1]
  by_cases hlt:j < s.length
  ·have hd:decide ((j:Int) < (s.length:Int)) = true:=by simpa using hlt
   have hg:(decide ((0:Int)<=(j:Int)) && true) = true:=by rw [decide_eq_true (by omega)];rfl
   have hg2:(decide ((0:Int)<=(i:Int)) && decide ((i:Int) < (s.length:Int))) = true:=by rw [decide_eq_true (by omega),decide_eq_true (by omega)];rfl
   have hnj:IntKind.i64.wrap ((j:Int) + 1) = ((j + 1:Nat):Int):=by rw [i64_id (by omega) (by omega)];omega
   have hni:IntKind.i64.wrap ((i:Int) + 1) = ((i + 1:Nat):Int):=by rw [i64_id (by omega) (by omega)];omega
   have hxj:xs[j]'(by omega) = s[j]:=by
    have e:=h2
    rw [drop_cons (by omega),drop_cons hlt] at e
    exact (List.cons.inj e).1
   have hat:∀ (m:Nat) (hm:m < xs.length),(encZ xs)[0 + (m:Int).toNat]? = some (.int .i64 xs[m]):=by
    intro m hm
    rw [Nat.zero_add,Int.toNat_natCast,encZ_get,List.getElem?_eq_getElem hm]
    rfl
   rw [hd,hg,hat j (by omega),hxj,hnj]
   simp only [cond_true,Option.bind_some,int_atInt]
   rw [hc _ (List.getElem_mem hlt)]
   simp only [R159_r]
   have hd2:xs.drop (j + 1) = s.drop (j + 1):=by rw [<- List.drop_drop,<- List.drop_drop,h2]
   have ht2:s.take (j + 1) = s.take j ++ [s[j]]:=List.take_succ_eq_append_getElem hlt
   cases hf:f s[j]
   ·simp only [Bool.not_false,cond_true]
    rw [hg2,hat i (by omega),hni]
    simp only [cond_true,Option.bind_some,Nat.zero_add,Int.toNat_natCast]
    rw [encZ_set]
    refine nsel_del l0 c f s hl hc n (i + 1) (j + 1) (xs.set i s[j]) (by omega) (by omega) (by omega) (by simp;omega) ?_ ?_
    ·rw [List.take_succ_eq_append_getElem (by simp;omega),List.take_set_of_le (by omega),h1,ht2,List.filter_append]
     simp [hf]
    ·rw [List.drop_set_of_lt (by omega),hd2]
   ·simp only [Bool.not_true,cond_false]
    refine nsel_del l0 c f s hl hc n i (j + 1) xs (by omega) (by omega) (by omega) hx ?_ hd2
    rw [h1,ht2,List.filter_append]
    simp [hf]
  ·have hd:decide ((j:Int) < (s.length:Int)) = false:=by simpa using hlt
   have hg:(decide ((0:Int)<=(i:Int)) && decide ((i:Int)<=(s.length:Int)) && decide ((s.length:Int)<=(s.length:Int))) = true:=by
    rw [decide_eq_true (by omega),decide_eq_true (by omega),decide_eq_true (by omega)];rfl
   have hg2:(decide ((0:Int)<=(i:Int)) && decide ((i:Int)<=(s.length:Int))) = true:=by rw [decide_eq_true (by omega),decide_eq_true (by omega)];rfl
   have hjs:s.take j = s:=List.take_of_length_le (by omega)
   rw [hd,hg,hg2]
   simp only [cond_true,cond_false,Nat.zero_add,Int.toNat_natCast]
   rw [List.append_assoc,List.take_left' (by simp;omega),encZ_take,h1,hjs]
theorem nsel_ok {k:Nat} (hk:100010<=k) (l0:List PV) (c:Int) (f:Int->Bool) (s:List Int) (hl:s.length<=100000) (hc:∀ k',k<=k'->∀ x ∈ s,c159 k' x l0 c = r159 (f x)):c146f159 (k + 2) (encZ s) l0 c = r146f159 (encZ (s.filter fun x=>!f x)):=by
 have etk:(encZ s).take s.length = encZ s:=List.take_of_length_le (by simp)
 rw [n146f159,encZ_length,etk,nsel_idx (k:=k) hk l0 c f s hl (hc k (Nat.le_refl k))]
 simp only [R124f159p_r]
 rcases fixI_spec f s 0 with ⟨h1,h2⟩ | ⟨j,hj,h1,h2,h3⟩
 ·rw [h1]
  have hall:s.filter (fun x=>!f x) = s:=List.filter_eq_self.2 fun x hx=>by
   obtain ⟨i,hi,rfl⟩:=List.mem_iff_getElem.1 hx
   simp [h2 _ (List.getElem_mem hi)]
  rw [hall]
  rfl
 ·rw [h1]
  have e1:((((0 + j:Nat):Int)) == (-1)) = false:=by rw [beq_eq_false_iff_ne];omega
  have e2:IntKind.i64.wrap (((0 + j:Nat):Int) + 1) = ((j + 1:Nat):Int):=by rw [i64_id (by omega) (by omega)];omega
  rw [e1,e2,Nat.zero_add]
  simp only [cond_false]
  have hpre:(s.take j).filter (fun x=>!f x) = s.take j:=List.filter_eq_self.2 fun x hx=>by
   obtain ⟨i,hi,rfl⟩:=List.mem_iff_getElem.1 hx
   rw [List.length_take] at hi
   rw [List.getElem_take]
   simp [h3 i (by omega)]
  refine nsel_del (k:=k + 1) l0 c f s hl (hc (k + 1) (by omega)) (k + 1) j (j + 1) s (by omega) (by omega) (by omega) rfl ?_ rfl
  rw [List.take_succ_eq_append_getElem hj,List.filter_append,hpre]
  simp [h2]
theorem R146f159p_enc (l:List Int) (K0:List PV->R):R146f159p (r146f159 (encZ l)) K0 = K0 (encZ l):=by
 have h:([SV.c (.own 3 0 (encZ l))].all plainS && true) = true:=by simp [plainS,plainC,encZ_plain];rfl
 show (bif ([SV.c (.own 3 0 (encZ l))].all plainS && true) then K0 (encZ l) else none) = _
 rw [h]
 rfl
theorem R160p_enc (l:List Int) (K0:List PV->R):R160p (r160 (encZ l)) K0 = K0 (encZ l):=by
 have h:([SV.c (.own 3 0 (encZ l))].all plainS && true) = true:=by simp [plainS,plainC,encZ_plain];rfl
 show (bif ([SV.c (.own 3 0 (encZ l))].all plainS && true) then K0 (encZ l) else none) = _
 rw [h]
 rfl
theorem selI_ok {k:Nat} (hk:100020<=k) {v:List Int} (l:List Int) (hl:l.length<=1000) (hin:∀ x ∈ l,inG v.length x) (c:Int):c146f159 k (encZ l) (encZ v) c = r146f159 (encZ (sel v c l)):=by
 obtain ⟨k,rfl⟩:∃ j,k = j + 2:=⟨k - 2,by omega⟩
 rw [nsel_ok (k:=k) (by omega) (encZ v) c (fun x=>dAt v x != c) l (by omega) (fun k' hk' x hx=>by
  obtain ⟨k',rfl⟩:∃ j,k' = j + 1:=⟨k' - 1,by omega⟩
  have:=hin x hx
  rw [n159,lookV this.1 this.2]
  simp only [Option.bind_some,int_atInt])]
 congr 2
 apply List.filter_congr
 intro x _
 simp [bne]
theorem graph_nx {p:Prg} {x:Int} (hx:inS p x):atL (graphL p) x.toNat = nxL p x:=by
 have h0:=hx.1
 have h1:=hx.2
 rw [graphL_at,if_pos (by omega)]
 congr 1
 omega
theorem graph_grF (p:Prg):GrF (encZZ (graphL p)) (graphL p):=by
 refine ⟨encZZ_length _,fun i hi=>⟨_,?_,row_atRow _ _⟩⟩
 rw [encZZ_get,List.getElem?_eq_getElem hi]
 simp [atL,hi]
section
variable {k:Nat} {p:Prg} (v:List Int) (l1:List PV) (path:List Int)
theorem al3 (n1 n2:Nat) (G:List PV) (oL:Nat) (xs:List PV) (i:Int) (w:List Int) (j:Int) (c:Int) (wl:Int) (hn:nS p<=100) (r:List Int) (hr:r.length<=1000) (hin:∀ x ∈ r,inG (nS p) x):∀ (n q:Nat) (acc:List Int),r.length - q < n->q<=r.length ->
  L98_3 k n1 n2 n oL G (nS p) (encZ path) (path.length:Int) i w.length wl j (encZ r) (r.length:Int) (q:Int) p.wide p.vars l1 (encCms p.cmds) (encZ v) c xs (encBo (inB (nS p) acc)) (encZ w) =
   L98_2 k n1 n2 oL G (nS p) (encZ path) (path.length:Int) i w.length wl (IntKind.i64.wrap (j + 1)) p.wide p.vars l1 (encCms p.cmds) (encZ v) c xs (encBo (inB (nS p) (acc ++ r.drop q))) (encZ w)
 | 0,q,acc,h,hq=>by omega
 | n + 1,q,acc,h,hq=>by
  rw [sL98_3]
  by_cases hlt:q < r.length
  ·have hd:decide ((q:Int) < (r.length:Int)) = true:=by simpa using hlt
   have hnext:IntKind.i64.wrap ((q:Int) + 1) = ((q + 1:Nat):Int):=by rw [i64_id (by omega) (by omega)];omega
   have hx:=hin _ (List.getElem_mem hlt)
   have hbl:(encBo (inB (nS p) acc)).length = nS p:=by simp [encBo,inB_len]
   obtain ⟨z,hz⟩:∃ z,(encBo (inB (nS p) acc))[r[q].toNat]? = some z:=⟨_,List.getElem?_eq_getElem (by rw [hbl];exact hx.2)⟩
   rw [hd,encZ_lookup hlt,hnext]
   simp only [cond_true,Option.bind_some,int_atInt]
   rw [inG_dec hx,Nat.zero_add,hz]
   simp only [cond_true,Option.bind_some]
   rw [encBo_set,inB_set _ _ _ hx.1 (by have:=hx.2;omega),al3 n1 n2 G oL xs i w j c wl hn r hr hin n (q + 1) (acc ++ [r[q]]) (by omega) (by omega),drop_cons hlt,List.append_assoc]
   rfl
  ·have hd:decide ((q:Int) < (r.length:Int)) = false:=by simpa using hlt
   rw [hd,List.drop_eq_nil_of_le (by omega),List.append_nil]
   rfl
theorem al2 (hp:FitP p) (hs:smallP p = true) (hn:v.length = nS p) (hk:1000400<=k) (n1:Nat) (o:List (List Int)) (ho:o.length<=5000) (i:Int) (w:List Int) (hw:SL p w) (c:Int):∀ (n j:Nat) (acc:List Int),w.length - j < n->j<=w.length->acc = aftAll p (w.take j) ->
  L98_2 k n1 n o.length (encZZ (graphL p)) (nS p) (encZ path) (path.length:Int) i w.length (w.length:Int) (j:Int) p.wide p.vars l1 (encCms p.cmds) (encZ v) c (encZZ o) (encBo (inB (nS p) acc)) (encZ w) =
   L98_1 k n1 (o.length + 1) (encZZ (graphL p)) (sel v c (nxS p w)).length (encZ path) (path.length:Int) (IntKind.i64.wrap (i + 1)) p.wide p.vars l1 (encCms p.cmds) (encZ v) (encZZ (o ++ [sel v c (nxS p w)])) (encZ (sel v c (nxS p w)))
 | 0,j,acc,h,hj,ha=>by omega
 | n + 1,j,acc,h,hj,ha=>by
  have hle:=(nS_le hs).2
  have hwl:=hw.len hs
  rw [sL98_2]
  by_cases hlt:j < w.length
  ·have hd:decide ((j:Int) < (w.length:Int)) = true:=by simpa using hlt
   have hd2:(decide ((0:Int)<=(j:Int)) && decide ((j:Int) < (w.length:Int))) = true:=by rw [decide_eq_true (by omega),hd];rfl
   have hnext:IntKind.i64.wrap ((j:Int) + 1) = ((j + 1:Nat):Int):=by rw [i64_id (by omega) (by omega)];omega
   have hx:=hw.is _ (List.getElem_mem hlt)
   have hnl:=nxL_len hp w[j]
   have hat:(encZ w)[0 + (j:Int).toNat]? = some (.int .i64 w[j]):=by rw [Nat.zero_add,Int.toNat_natCast,encZ_get,List.getElem?_eq_getElem hlt];rfl
   rw [hd2,hd,hat]
   simp only [cond_true,Option.bind_some,int_atInt]
   rw [(graph_grF p).bind (by rw [graphL_len];exact inG_in.2 hx),graph_nx hx,encZ_length]
   have h3:=al3 (k:=k) v l1 path n1 n (encZZ (graphL p)) o.length (encZZ o) i w (j:Int) c (w.length:Int) (by omega) (nxL p w[j]) (by omega) (fun x hx'=>inG_in.2 (nxL_in hp hs hx x hx')) k 0 acc (by omega) (by omega)
   have h3':L98_3 k n1 n k o.length (encZZ (graphL p)) (nS p) (encZ path) (path.length:Int) i w.length (w.length:Int) (j:Int) (encZ (nxL p w[j])) ((nxL p w[j]).length:Int) 0 p.wide p.vars l1 (encCms p.cmds) (encZ v) c (encZZ o) (encBo (inB (nS p) acc)) (encZ w) = _:=h3
   rw [h3',hnext,List.drop_zero]
   exact al2 hp hs hn hk n1 o ho i w hw c n (j + 1) (acc ++ nxL p w[j]) (by omega) (by omega) (by
    rw [List.take_succ_eq_append_getElem hlt,ha]
    have:∀ (a b:List Int),aftAll p (a ++ b) = aftAll p a ++ aftAll p b:=by
     intro a b
     induction a with
     | nil=>rfl
     | cons x a ih=>simp [aftAll,ih]
    rw [this]
    simp [aftAll])
  ·have hd:decide ((j:Int) < (w.length:Int)) = false:=by simpa using hlt
   have ej:w.take j = w:=List.take_of_length_le (by omega)
   rw [ej] at ha
   have hnx:=nxS_SL hp hs hw
   have hnxl:=hnx.len hs
   have hsl:=(hnx.filter (fun x=>dAt v x == c)).len hs
   have htk:(encBo (inB (nS p) acc)).take (nS p) = encBo (inB (nS p) acc):=List.take_of_length_le (by simp [encBo,inB_len])
   have hmk:mkB (inB (nS p) acc) 0 = nxS p w:=by
    rw [ha]
    refine mkB_inB fun x hx=>?_
    obtain ⟨y,h1,h2⟩:=(aftAll_mem p w x).1 hx
    exact nxL_in hp hs (hw.is y h1) x h2
   rw [hd,htk,marked_ok (by omega) _ (by rw [inB_len];omega),hmk]
   simp only [cond_false]
   rw [R118p_enc,encZ_length,encZ_tk,selI_ok (by omega) (v:=v) (nxS p w) (by omega) (fun x hx=>by rw [hn];exact inG_in.2 (hnx.is x hx)),R146f159p_enc,encZ_length,encZ_tk]
   obtain ⟨k,rfl⟩:∃ j,k = j + 1:=⟨k - 1,by omega⟩
   have hsl':(sel v c (nxS p w)).length<=32:=hsl
   rw [n160 _ _ (by rw [encZ_length];unfold LIM;omega) (by rw [encZ_length];unfold LIM;omega),R160p_enc]
   have e1:decide ((sel v c (nxS p w)).length<=(sel v c (nxS p w)).length) = true:=decide_eq_true (Nat.le_refl _)
   have e2:(o.length == (encZZ o).length) = true:=by rw [encZZ_length,beq_self_eq_true]
   rw [encZ_length,e1,e2,Bool.true_and,lim_ok (by omega) (by omega),encZ_tk,encZZ_snoc]
   rfl
end
theorem al1 {k:Nat} {p:Prg} (v:List Int) (l1:List PV) (path:List Int) (hp:FitP p) (hs:smallP p = true) (hn:v.length = nS p) (hk:1000400<=k) (hpl:path.length<=4000):∀ (n i:Nat) (o:List (List Int)) (w:List Int),path.length - i < n->i<=path.length->1<=i->o.length = i->SL p w ->
  L98_1 k n o.length (encZZ (graphL p)) w.length (encZ path) (path.length:Int) (i:Int) p.wide p.vars l1 (encCms p.cmds) (encZ v) (encZZ o) (encZ w) = r98 (encZZ (o ++ alongF p v (nxS p w) (path.drop i)))
 | 0,i,o,w,h,hi,h1,ho,hw=>by omega
 | n + 1,i,o,w,h,hi,h1,ho,hw=>by
  have hle:=nS_le hs
  have hwl:=hw.len hs
  rw [sL98_1]
  by_cases hlt:i < path.length
  ·have hd:decide ((i:Int) < (path.length:Int)) = true:=by simpa using hlt
   have hd0:decide ((i:Int) > 0) = true:=decide_eq_true (by omega)
   have hnext:IntKind.i64.wrap ((i:Int) + 1) = ((i + 1:Nat):Int):=by rw [i64_id (by omega) (by omega)];omega
   have hgd:(((nS p:Int) == (nS p:Int)) && decide ((0:Int)<=(nS p:Int)) && decide ((nS p:Int).toNat * 1<=LIM) && decide ((nS p:Int).toNat<=LIM)) = true:=by
    rw [beq_self_eq_true,decide_eq_true (show (0:Int)<=(nS p:Int) by omega),decide_eq_true (by unfold LIM;omega),decide_eq_true (by unfold LIM;omega)]
    rfl
   have he:List.replicate (nS p) (PV.bool false) = encBo (inB (nS p) []):=by
    apply List.ext_getElem
    ·simp [encBo,inB_len]
    ·intro i h1 h2
     simp [encBo,inB]
   rw [hd,encZ_lookup hlt,hd0,drop_cons hlt]
   simp only [cond_true,Option.bind_some,int_atInt,alongF]
   rw [nSI_ok (by omega) hs]
   simp only [R50_r]
   rw [hgd,Int.toNat_natCast,he]
   have h2:=al2 (k:=k) v l1 path hp hs hn hk n o (by omega) (i:Int) w hw path[i] k 0 [] (by omega) (by omega) rfl
   have h2':L98_2 k n k o.length (encZZ (graphL p)) (nS p) (encZ path) (path.length:Int) (i:Int) w.length (w.length:Int) 0 p.wide p.vars l1 (encCms p.cmds) (encZ v) path[i] (encZZ o) (encBo (inB (nS p) [])) (encZ w) = _:=h2
   simp only [cond_true]
   rw [h2',hnext]
   have hnx:=nxS_SL hp hs hw
   have:=al1 v l1 path hp hs hn hk hpl n (i + 1) (o ++ [sel v path[i] (nxS p w)]) (sel v path[i] (nxS p w)) (by omega) (by omega) (by omega) (by simp;omega) (hnx.filter _)
   rw [List.length_append,List.append_assoc] at this
   exact this
  ·have hd:decide ((i:Int) < (path.length:Int)) = false:=by simpa using hlt
   have e2:(o.length == (encZZ o).length) = true:=by rw [encZZ_length,beq_self_eq_true]
   have e3:(encZZ o).take o.length = encZZ o:=List.take_of_length_le (by simp)
   rw [hd,e2,e3,List.drop_eq_nil_of_le (by omega),alongF,List.append_nil]
   rfl
theorem statesAlong_ok {k:Nat} (hk:1000500<=k) {p:Prg} (hp:FitP p) (hs:smallP p = true) {v:List Int} (hn:v.length = nS p) (path:List Int) (hpl:path.length<=4000):c98 k p.wide p.vars (encT p.start) (encCms p.cmds) (encZ v) (encZ path) = r98 (encZZ (alongL p v path)):=by
 obtain ⟨k,rfl⟩:∃ j,k = j + 2:=⟨k - 2,by omega⟩
 have hst:=hp.st
 have hwl:=whI_len hs p.start
 have hSL:=start_SL p
 rw [n98,graph_ok (by omega) hp hs]
 simp only [R133_r]
 rw [where_ok (by omega) hs _ _ p.start (by omega) (startK hs)]
 simp only [R57_r,encZ_length]
 rw [sL98_1]
 cases path with
 | nil=>rfl
 | cons c path =>
  have hd:decide ((0:Int) < ((c :: path).length:Int)) = true:=decide_eq_true (by rw [List.length_cons];omega)
  have e0:lookP (encZ (c :: path)) 0 = some (.int .i64 c):=encZ_lookup (l:=c :: path) (i:=0) (by simp)
  have hd0:decide ((0:Int) > 0) = false:=rfl
  have hsl:=(hSL.filter (fun x=>dAt v x == c)).len hs
  have hsl':(sel v c (whI p p.start)).length<=32:=hsl
  rw [hd,e0,hd0]
  simp only [cond_true,cond_false,Option.bind_some,int_atInt]
  rw [encZ_tk,selI_ok (by omega) (v:=v) (whI p p.start) (by omega) (fun x hx=>by rw [hn];exact inG_in.2 (hSL.is x hx)),R146f159p_enc,encZ_length,encZ_tk]
  rw [n160 _ _ (by rw [encZ_length];unfold LIM;omega) (by rw [encZ_length];unfold LIM;omega),R160p_enc]
  have e1:decide ((sel v c (whI p p.start)).length<=(sel v c (whI p p.start)).length) = true:=decide_eq_true (Nat.le_refl _)
  have e2:(decide ((0 + 1) * 24<=LIM) && decide (0 + 1<=LIM)) = true:=by decide
  rw [encZ_length,e1,encZ_tk]
  have:=al1 (k:=k + 1) v (encT p.start) (c :: path) hp hs hn (by omega) hpl k 1 [sel v c (whI p p.start)] (sel v c (whI p p.start)) (by simp at hpl ⊢;omega) (by simp) (by omega) rfl (hSL.filter _)
  exact this
section
variable {k:Nat} {p:Prg} (v:List Int) (l0:List PV) (path:List Int)
theorem sl2 (hp:FitP p) (hs:smallP p = true) (hn:v.length = nS p) (hk:1000400<=k) (n1:Nat) (o:List (List Int)) (ho:o.length<=5000) (i:Int) (w:List Int) (hw:SL p w) (c:Int):∀ (n j:Nat) (acc:List Int),w.length - j < n->j<=w.length->acc = sel v c (w.take j) ->
  L94_2 k n1 n o.length c acc.length (encZ path) (path.length:Int) i (encZ w) (w.length:Int) (j:Int) p.wide p.vars l0 (encCms p.cmds) (encZ v) (encZZ o) (encZ acc) =
   L94_1 k n1 (o.length + 1) (encZ (nxS p (sel v c w))) (encZ path) (path.length:Int) (IntKind.i64.wrap (i + 1)) p.wide p.vars l0 (encCms p.cmds) (encZ v) (encZZ (o ++ [sel v c w]))
 | 0,j,acc,h,hj,ha=>by omega
 | n + 1,j,acc,h,hj,ha=>by
  have hwl:=hw.len hs
  have hal:acc.length<=w.length:=by rw [ha];exact Nat.le_trans (List.length_filter_le _ _) (by simp;omega)
  rw [sL94_2,encZ_tk]
  by_cases hlt:j < w.length
  ·have hd:decide ((j:Int) < (w.length:Int)) = true:=by simpa using hlt
   have hnext:IntKind.i64.wrap ((j:Int) + 1) = ((j + 1:Nat):Int):=by rw [i64_id (by omega) (by omega)];omega
   have hx:=hw.is _ (List.getElem_mem hlt)
   have hxg:inG v.length w[j]:=by rw [hn];exact inG_in.2 hx
   have ht:w.take (j + 1) = w.take j ++ [w[j]]:=List.take_succ_eq_append_getElem hlt
   rw [hd,encZ_lookup hlt,hnext]
   simp only [cond_true,Option.bind_some,int_atInt]
   rw [lookV hxg.1 hxg.2]
   simp only [Option.bind_some,int_atInt]
   cases hc:(dAt v w[j] == c)
   ·exact sl2 hp hs hn hk n1 o ho i w hw c n (j + 1) acc (by omega) (by omega) (by rw [ht,ha,sel,sel,List.filter_append];simp [hc])
   ·simp only [cond_true]
    rw [lim_ok (by omega) (by omega),encZ_snoc]
    have:=sl2 hp hs hn hk n1 o ho i w hw c n (j + 1) (acc ++ [w[j]]) (by omega) (by omega) (by rw [ht,ha,sel,sel,List.filter_append];simp [hc])
    rw [List.length_append] at this
    exact this
  ·have hd:decide ((j:Int) < (w.length:Int)) = false:=by simpa using hlt
   have ej:w.take j = w:=List.take_of_length_le (by omega)
   rw [ej] at ha
   have e3:(encZZ o).take o.length = encZZ o:=List.take_of_length_le (by simp)
   have hsl:=hw.filter (fun x=>dAt v x == c)
   rw [hd,e3,l8After_ok (by omega) hp hs l0 acc (by omega) (fun x hx=>by rw [ha] at hx;exact hsl.is x hx),encZZ_snoc]
   simp only [cond_true,cond_false,R149_r]
   rw [lim_ok (by omega) (by omega),ha]
   rfl
end
theorem sl1 {k:Nat} {p:Prg} (v:List Int) (l0:List PV) (path:List Int) (hp:FitP p) (hs:smallP p = true) (hn:v.length = nS p) (hk:1000400<=k) (hpl:path.length<=4000):∀ (n i:Nat) (o:List (List Int)) (w:List Int),path.length - i < n->i<=path.length->o.length = i->SL p w ->
  L94_1 k n o.length (encZ w) (encZ path) (path.length:Int) (i:Int) p.wide p.vars l0 (encCms p.cmds) (encZ v) (encZZ o) = r94 (encZZ (o ++ alongF p v w (path.drop i)))
 | 0,i,o,w,h,hi,ho,hw=>by omega
 | n + 1,i,o,w,h,hi,ho,hw=>by
  have hwl:=hw.len hs
  rw [sL94_1]
  by_cases hlt:i < path.length
  ·have hd:decide ((i:Int) < (path.length:Int)) = true:=by simpa using hlt
   have hnext:IntKind.i64.wrap ((i:Int) + 1) = ((i + 1:Nat):Int):=by rw [i64_id (by omega) (by omega)];omega
   rw [hd,encZ_lookup hlt,drop_cons hlt]
   simp only [cond_true,Option.bind_some,int_atInt,alongF]
   have h2:=sl2 (k:=k) v l0 path hp hs hn hk n o (by omega) (i:Int) w hw path[i] k 0 [] (by omega) (by omega) (by simp [sel])
   have h2':L94_2 k n k o.length path[i] 0 (encZ path) (path.length:Int) (i:Int) (encZ w) (w.length:Int) 0 p.wide p.vars l0 (encCms p.cmds) (encZ v) (encZZ o) [] = _:=h2
   rw [encZ_length,h2',hnext]
   have:=sl1 v l0 path hp hs hn hk hpl n (i + 1) (o ++ [sel v path[i] w]) (nxS p (sel v path[i] w)) (by omega) (by omega) (by simp;omega) (nxS_SL hp hs (hw.filter _))
   rw [List.length_append,List.append_assoc] at this
   exact this
  ·have hd:decide ((i:Int) < (path.length:Int)) = false:=by simpa using hlt
   have e3:(encZZ o).take o.length = encZZ o:=List.take_of_length_le (by simp)
   rw [hd,e3,List.drop_eq_nil_of_le (by omega),alongF,List.append_nil]
   rfl
theorem l19Along_ok {k:Nat} (hk:1000500<=k) {p:Prg} (hp:FitP p) (hs:smallP p = true) {v:List Int} (hn:v.length = nS p) (path:List Int) (hpl:path.length<=4000):c94 k p.wide p.vars (encT p.start) (encCms p.cmds) (encZ v) (encZ path) = r94 (encZZ (alongL p v path)):=by
 obtain ⟨k,rfl⟩:∃ j,k = j + 1:=⟨k - 1,by omega⟩
 have hst:=hp.st
 rw [n94,those_ok (by omega) hs _ _ p.start (by omega) (startK hs)]
 simp only [R59_r]
 rw [encZ_length]
 exact sl1 (k:=k) v (encT p.start) path hp hs hn (by omega) hpl k 0 [] (whI p p.start) (by omega) (by omega) rfl (start_SL p)
theorem fails_loop {k:Nat}  (f:List Int->Bool) (l:List (List Int)) (hl:l.length<=100000) (hc:∀ x ∈ l,c158 k (encZ x)  = r158 (f x)):∀ (n i:Nat),l.length - i < n->i<=l.length->L157f158_1 k n (encZZ l)  (l.length:Int) (i:Int) = r157f158 (fixI f i (l.drop i))
 | 0,i,h,hi=>by omega
 | n + 1,i,h,hi=>by
  rw [sL157f158_1]
  by_cases hlt:i < l.length
  ·have hd:decide ((i:Int) < (l.length:Int)) = true:=by simpa using hlt
   have hnext:IntKind.i64.wrap ((i:Int) + 1) = ((i + 1:Nat):Int):=by rw [i64_id (by omega) (by omega)];omega
   rw [hd,lookP_nat,encZZ_get,List.getElem?_eq_getElem hlt,drop_cons hlt,hnext]
   simp only [cond_true,Option.map_some,Option.bind_some,row_atRow]
   rw [hc _ (List.getElem_mem hlt)]
   simp only [R158_r,fixI]
   cases f l[i]
   ·exact fails_loop  f l hl hc n (i + 1) (by omega) (by omega)
   ·rfl
  ·have hd:decide ((i:Int) < (l.length:Int)) = false:=by simpa using hlt
   rw [hd,List.drop_eq_nil_of_le (by omega)]
   rfl
theorem fails_idx {k:Nat} (hk:100010<=k)  (f:List Int->Bool) (l:List (List Int)) (hl:l.length<=100000) (hc:∀ x ∈ l,c158 k (encZ x)  = r158 (f x)):c157f158 (k + 1) (encZZ l)  = r157f158 (fixI f 0 l):=by
 rw [n157f158,encZZ_length]
 exact fails_loop (k:=k)  f l hl hc k 0 (by omega) (by omega)
theorem len_isEmpty (x:List Int):(((encZ x).length:Int) == 0) = x.isEmpty:=by
 cases x with
 | nil=>rfl
 | cons y x=>rw [beq_eq_false_iff_ne.2 (by simp;omega)];rfl
theorem failsAt_ok {k:Nat} (hk:100020<=k) (g:List (List Int)) (hg:g.length<=5000):c97 k (encZZ g) = r97 (failL g):=by
 obtain ⟨k,rfl⟩:∃ j,k = j + 3:=⟨k - 3,by omega⟩
 rw [n97,fails_idx (k:=k + 1) (by omega) List.isEmpty g (by omega) (fun x hx=>by rw [n158,len_isEmpty])]
 simp only [R157f158p_r]
 rfl
theorem l19Fails_loop {k:Nat} (g:List (List Int)) (hg:g.length<=5000):∀ (n i:Nat),g.length - i < n->i<=g.length->L95_1 k n (encZZ g) (g.length:Int) (i:Int) = r95 (fixI List.isEmpty i (g.drop i))
 | 0,i,h,hi=>by omega
 | n + 1,i,h,hi=>by
  rw [sL95_1]
  by_cases hlt:i < g.length
  ·have hd:decide ((i:Int) < (g.length:Int)) = true:=by simpa using hlt
   have hnext:IntKind.i64.wrap ((i:Int) + 1) = ((i + 1:Nat):Int):=by rw [i64_id (by omega) (by omega)];omega
   rw [hd,lookP_nat,encZZ_get,List.getElem?_eq_getElem hlt,drop_cons hlt,hnext]
   simp only [cond_true,Option.map_some,Option.bind_some,row_atRow,fixI]
   rw [len_isEmpty]
   cases g[i].isEmpty
   ·exact l19Fails_loop g hg n (i + 1) (by omega) (by omega)
   ·rfl
  ·have hd:decide ((i:Int) < (g.length:Int)) = false:=by simpa using hlt
   rw [hd,List.drop_eq_nil_of_le (by omega)]
   rfl
theorem l19Fails_ok {k:Nat} (hk:5010<=k) (g:List (List Int)) (hg:g.length<=5000):c95 k (encZZ g) = r95 (failL g):=by
 obtain ⟨k,rfl⟩:∃ j,k = j + 1:=⟨k - 1,by omega⟩
 rw [n95,encZZ_length]
 exact l19Fails_loop (k:=k) g hg k 0 (by omega) (by omega)
end Go.Proofs.YthoecdnmokcfbaaGreat
/- Both sides' least path of states;dead ends;steps from class to class. -/
set_option linter.unusedVariables false
set_option linter.unusedSimpArgs false
set_option maxRecDepth 8000
namespace Go.Proofs.YthoecdnmokcfbaaGreat
open Go.Dp
theorem rpa_loop {k:Nat} (l1:List PV) (n0:Int) (f:Int->Bool) (l:List (Int)) (hl:l.length<=100000) (hc:∀ x ∈ l,c154 k x l1 n0 = r154 (f x)):∀ (n i:Nat),l.length - i < n->i<=l.length->L124f154_1 k n (encZ l) l1 n0 (l.length:Int) (i:Int) = r124f154 (fixI f i (l.drop i))
 | 0,i,h,hi=>by omega
 | n + 1,i,h,hi=>by
  rw [sL124f154_1]
  by_cases hlt:i < l.length
  ·have hd:decide ((i:Int) < (l.length:Int)) = true:=by simpa using hlt
   have hnext:IntKind.i64.wrap ((i:Int) + 1) = ((i + 1:Nat):Int):=by rw [i64_id (by omega) (by omega)];omega
   rw [hd,encZ_lookup hlt,drop_cons hlt,hnext]
   simp only [cond_true,Option.bind_some,int_atInt]
   rw [hc _ (List.getElem_mem hlt)]
   simp only [R154_r,fixI]
   cases f l[i]
   ·exact rpa_loop l1 n0 f l hl hc n (i + 1) (by omega) (by omega)
   ·rfl
  ·have hd:decide ((i:Int) < (l.length:Int)) = false:=by simpa using hlt
   rw [hd,List.drop_eq_nil_of_le (by omega)]
   rfl
theorem rpa_idx {k:Nat} (hk:100010<=k) (l1:List PV) (n0:Int) (f:Int->Bool) (l:List (Int)) (hl:l.length<=100000) (hc:∀ x ∈ l,c154 k x l1 n0 = r154 (f x)):c124f154 (k + 1) (encZ l) l1 n0 = r124f154 (fixI f 0 l):=by
 rw [n124f154,encZ_length]
 exact rpa_loop (k:=k) l1 n0 f l hl hc k 0 (by omega) (by omega)
theorem rpa_ok {k:Nat} (hk:100010<=k) (l1:List PV) (n0:Int) (f:Int->Bool) (l:List (Int)) (hl:l.length<=100000) (hc:∀ x ∈ l,c154 k x l1 n0 = r154 (f x)):c62f154 (k + 2) (encZ l) l1 n0 = r62f154 (l.any f):=by
 rw [n62f154,rpa_idx (by omega) l1 n0 f l hl hc]
 simp only [R124f154p_r,fixI_ge]
theorem rpb_loop {k:Nat} (l0 l1:List PV) (n0:Int) (f:Int->Bool) (l:List (Int)) (hl:l.length<=100000) (hc:∀ x ∈ l,c153 k x l0 l1 n0 = r153 (f x)):∀ (n i:Nat),l.length - i < n->i<=l.length->L124f153_1 k n (encZ l) l0 l1 n0 (l.length:Int) (i:Int) = r124f153 (fixI f i (l.drop i))
 | 0,i,h,hi=>by omega
 | n + 1,i,h,hi=>by
  rw [sL124f153_1]
  by_cases hlt:i < l.length
  ·have hd:decide ((i:Int) < (l.length:Int)) = true:=by simpa using hlt
   have hnext:IntKind.i64.wrap ((i:Int) + 1) = ((i + 1:Nat):Int):=by rw [i64_id (by omega) (by omega)];omega
   rw [hd,encZ_lookup hlt,drop_cons hlt,hnext]
   simp only [cond_true,Option.bind_some,int_atInt]
   rw [hc _ (List.getElem_mem hlt)]
   simp only [R153_r,fixI]
   cases f l[i]
   ·exact rpb_loop l0 l1 n0 f l hl hc n (i + 1) (by omega) (by omega)
   ·rfl
  ·have hd:decide ((i:Int) < (l.length:Int)) = false:=by simpa using hlt
   rw [hd,List.drop_eq_nil_of_le (by omega)]
   rfl
theorem rpb_idx {k:Nat} (hk:100010<=k) (l0 l1:List PV) (n0:Int) (f:Int->Bool) (l:List (Int)) (hl:l.length<=100000) (hc:∀ x ∈ l,c153 k x l0 l1 n0 = r153 (f x)):c124f153 (k + 1) (encZ l) l0 l1 n0 = r124f153 (fixI f 0 l):=by
 rw [n124f153,encZ_length]
 exact rpb_loop (k:=k) l0 l1 n0 f l hl hc k 0 (by omega) (by omega)
theorem rpb_del {k:Nat} (l0 l1:List PV) (n0:Int) (f:Int->Bool) (s:List Int) (hl:s.length<=100000) (hc:∀ x ∈ s,c153 k x l0 l1 n0 = r153 (f x)):∀ (n i j:Nat) (xs:List Int),s.length - j < n->j<=s.length->i<=j->xs.length = s.length->xs.take i = (s.take j).filter (fun x=>!f x)->xs.drop j = s.drop j ->
  L146f153_1 k n s.length l0 l1 n0 (i:Int) (j:Int) (encZ xs) = r146f153 (encZ (s.filter fun x=>!f x))
 | 0,i,j,xs,h,hj,hi,hx,h1,h2=>by omega
 | n + 1,i,j,xs,h,hj,hi,hx,h1,h2=>by
  rw [sL146f153_1]
  by_cases hlt:j < s.length
  ·have hd:decide ((j:Int) < (s.length:Int)) = true:=by simpa using hlt
   have hg:(decide ((0:Int)<=(j:Int)) && true) = true:=by rw [decide_eq_true (by omega)];rfl
   have hg2:(decide ((0:Int)<=(i:Int)) && decide ((i:Int) < (s.length:Int))) = true:=by rw [decide_eq_true (by omega),decide_eq_true (by omega)];rfl
   have hnj:IntKind.i64.wrap ((j:Int) + 1) = ((j + 1:Nat):Int):=by rw [i64_id (by omega) (by omega)];omega
   have hni:IntKind.i64.wrap ((i:Int) + 1) = ((i + 1:Nat):Int):=by rw [i64_id (by omega) (by omega)];omega
   have hxj:xs[j]'(by omega) = s[j]:=by
    have e:=h2
    rw [drop_cons (by omega),drop_cons hlt] at e
    exact (List.cons.inj e).1
   have hat:∀ (m:Nat) (hm:m < xs.length),(encZ xs)[0 + (m:Int).toNat]? = some (.int .i64 xs[m]):=by
    intro m hm
    rw [Nat.zero_add,Int.toNat_natCast,encZ_get,List.getElem?_eq_getElem hm]
    rfl
   rw [hd,hg,hat j (by omega),hxj,hnj]
   simp only [cond_true,Option.bind_some,int_atInt]
   rw [hc _ (List.getElem_mem hlt)]
   simp only [R153_r]
   have hd2:xs.drop (j + 1) = s.drop (j + 1):=by rw [<- List.drop_drop,<- List.drop_drop,h2]
   have ht2:s.take (j + 1) = s.take j ++ [s[j]]:=List.take_succ_eq_append_getElem hlt
   cases hf:f s[j]
   ·simp only [Bool.not_false,cond_true]
    rw [hg2,hat i (by omega),hni]
    simp only [cond_true,Option.bind_some,Nat.zero_add,Int.toNat_natCast]
    rw [encZ_set]
    refine rpb_del l0 l1 n0 f s hl hc n (i + 1) (j + 1) (xs.set i s[j]) (by omega) (by omega) (by omega) (by simp;omega) ?_ ?_
    ·rw [List.take_succ_eq_append_getElem (by simp;omega),List.take_set_of_le (by omega),h1,ht2,List.filter_append]
     simp [hf]
    ·rw [List.drop_set_of_lt (by omega),hd2]
   ·simp only [Bool.not_true,cond_false]
    refine rpb_del l0 l1 n0 f s hl hc n i (j + 1) xs (by omega) (by omega) (by omega) hx ?_ hd2
    rw [h1,ht2,List.filter_append]
    simp [hf]
  ·have hd:decide ((j:Int) < (s.length:Int)) = false:=by simpa using hlt
   have hg:(decide ((0:Int)<=(i:Int)) && decide ((i:Int)<=(s.length:Int)) && decide ((s.length:Int)<=(s.length:Int))) = true:=by
    rw [decide_eq_true (by omega),decide_eq_true (by omega),decide_eq_true (by omega)];rfl
   have hg2:(decide ((0:Int)<=(i:Int)) && decide ((i:Int)<=(s.length:Int))) = true:=by rw [decide_eq_true (by omega),decide_eq_true (by omega)];rfl
   have hjs:s.take j = s:=List.take_of_length_le (by omega)
   rw [hd,hg,hg2]
   simp only [cond_true,cond_false,Nat.zero_add,Int.toNat_natCast]
   rw [List.append_assoc,List.take_left' (by simp;omega),encZ_take,h1,hjs]
theorem rpb_ok {k:Nat} (hk:100010<=k) (l0 l1:List PV) (n0:Int) (f:Int->Bool) (s:List Int) (hl:s.length<=100000) (hc:∀ k',k<=k'->∀ x ∈ s,c153 k' x l0 l1 n0 = r153 (f x)):c146f153 (k + 2) (encZ s) l0 l1 n0 = r146f153 (encZ (s.filter fun x=>!f x)):=by
 have etk:(encZ s).take s.length = encZ s:=List.take_of_length_le (by simp)
 rw [n146f153,encZ_length,etk,rpb_idx (k:=k) hk l0 l1 n0 f s hl (hc k (Nat.le_refl k))]
 simp only [R124f153p_r]
 rcases fixI_spec f s 0 with ⟨h1,h2⟩ | ⟨j,hj,h1,h2,h3⟩
 ·rw [h1]
  have hall:s.filter (fun x=>!f x) = s:=List.filter_eq_self.2 fun x hx=>by
   obtain ⟨i,hi,rfl⟩:=List.mem_iff_getElem.1 hx
   simp [h2 _ (List.getElem_mem hi)]
  rw [hall]
  rfl
 ·rw [h1]
  have e1:((((0 + j:Nat):Int)) == (-1)) = false:=by rw [beq_eq_false_iff_ne];omega
  have e2:IntKind.i64.wrap (((0 + j:Nat):Int) + 1) = ((j + 1:Nat):Int):=by rw [i64_id (by omega) (by omega)];omega
  rw [e1,e2,Nat.zero_add]
  simp only [cond_false]
  have hpre:(s.take j).filter (fun x=>!f x) = s.take j:=List.filter_eq_self.2 fun x hx=>by
   obtain ⟨i,hi,rfl⟩:=List.mem_iff_getElem.1 hx
   rw [List.length_take] at hi
   rw [List.getElem_take]
   simp [h3 i (by omega)]
  refine rpb_del (k:=k + 1) l0 l1 n0 f s hl (hc (k + 1) (by omega)) (k + 1) j (j + 1) s (by omega) (by omega) (by omega) rfl ?_ rfl
  rw [List.take_succ_eq_append_getElem hj,List.filter_append,hpre]
  simp [h2]
theorem rpc_loop {k:Nat} (l0 l1:List PV) (n0:Int) (f:Int->Bool) (l:List (Int)) (hl:l.length<=100000) (hc:∀ x ∈ l,c155 k x l0 l1 n0 = r155 (f x)):∀ (n i:Nat),l.length - i < n->i<=l.length->L124f155_1 k n (encZ l) l0 l1 n0 (l.length:Int) (i:Int) = r124f155 (fixI f i (l.drop i))
 | 0,i,h,hi=>by omega
 | n + 1,i,h,hi=>by
  rw [sL124f155_1]
  by_cases hlt:i < l.length
  ·have hd:decide ((i:Int) < (l.length:Int)) = true:=by simpa using hlt
   have hnext:IntKind.i64.wrap ((i:Int) + 1) = ((i + 1:Nat):Int):=by rw [i64_id (by omega) (by omega)];omega
   rw [hd,encZ_lookup hlt,drop_cons hlt,hnext]
   simp only [cond_true,Option.bind_some,int_atInt]
   rw [hc _ (List.getElem_mem hlt)]
   simp only [R155_r,fixI]
   cases f l[i]
   ·exact rpc_loop l0 l1 n0 f l hl hc n (i + 1) (by omega) (by omega)
   ·rfl
  ·have hd:decide ((i:Int) < (l.length:Int)) = false:=by simpa using hlt
   rw [hd,List.drop_eq_nil_of_le (by omega)]
   rfl
theorem rpc_idx {k:Nat} (hk:100010<=k) (l0 l1:List PV) (n0:Int) (f:Int->Bool) (l:List (Int)) (hl:l.length<=100000) (hc:∀ x ∈ l,c155 k x l0 l1 n0 = r155 (f x)):c124f155 (k + 1) (encZ l) l0 l1 n0 = r124f155 (fixI f 0 l):=by
 rw [n124f155,encZ_length]
 exact rpc_loop (k:=k) l0 l1 n0 f l hl hc k 0 (by omega) (by omega)
theorem R146f153p_enc (l:List Int) (K0:List PV->R):R146f153p (r146f153 (encZ l)) K0 = K0 (encZ l):=by
 have h:([SV.c (.own 3 0 (encZ l))].all plainS && true) = true:=by simp [plainS,plainC,encZ_plain];rfl
 show (bif ([SV.c (.own 3 0 (encZ l))].all plainS && true) then K0 (encZ l) else none) = _
 rw [h]
 rfl
theorem rpa_ok' {k:Nat} (hk:100200<=k) (a b:List Int) (ha:a.length<=1000) (hb:b.length<=1000) (L:List PV) (i:Nat) (hi:i<=5000) (hL:lookP L ((i + 1:Nat):Int) = some (.row 0 0 (encZ b))) :
  c62f154 k (encZ a) L (i:Int) = r62f154 (meetI a b):=by
 obtain ⟨k,rfl⟩:∃ j,k = j + 2:=⟨k - 2,by omega⟩
 exact rpa_ok (k:=k) (by omega) L (i:Int) (fun y=>b.contains y) a (by omega) (fun x hx=>by
  obtain ⟨k,rfl⟩:∃ j,k = j + 1:=⟨k - 1,by omega⟩
  have e:IntKind.i64.wrap ((i:Int) + 1) = ((i + 1:Nat):Int):=by rw [i64_id (by omega) (by omega)];omega
  rw [n154,e,hL]
  simp only [Option.bind_some,row_atRow]
  rw [contains1_ok (by omega) b (by omega)]
  simp only [R65_r])
theorem rpb_ok' {k:Nat} (hk:100300<=k) {p:Prg} (hp:FitP p) (a b:List Int) (ha:a.length<=1000) (hin:∀ x ∈ a,inS p x) (hb:b.length<=1000) (L:List PV) (i:Nat) (hi:i<=5000) (hL:lookP L ((i + 1:Nat):Int) = some (.row 0 0 (encZ b))) :
  c146f153 k (encZ a) (encZZ (graphL p)) L (i:Int) = r146f153 (encZ (a.filter fun x=>meetI (nxL p x) b)):=by
 obtain ⟨k,rfl⟩:∃ j,k = j + 2:=⟨k - 2,by omega⟩
 rw [rpb_ok (k:=k) (by omega) (encZZ (graphL p)) L (i:Int) (fun x=>!meetI (nxL p x) b) a (by omega) (fun k' hk' x hx=>by
  obtain ⟨k',rfl⟩:∃ j,k' = j + 1:=⟨k' - 1,by omega⟩
  have hx':=hin x hx
  have hnl:=nxL_len hp x
  rw [n153,(graph_grF p).bind (by rw [graphL_len];exact inG_in.2 hx'),graph_nx hx',rpa_ok' (by omega) (nxL p x) b (by omega) hb L i hi hL]
  simp only [R62f154p_r])]
 simp only [Bool.not_not]
theorem canF_at {p:Prg} {g:List (List Int)} {j:Nat} (hj:j + 1 < g.length):∃ b,∃ l,canF p (g.drop (j + 1)) = b :: l /\ canF p (g.drop j) = (g[j]'(by omega)).filter (fun x=>meetI (nxL p x) b) :: b :: l:=by
 have e:g.drop (j + 1) = g[j + 1] :: g.drop (j + 2):=drop_cons hj
 obtain ⟨f,e2⟩:=canF_cons p g[j + 1] (g.drop (j + 2))
 refine ⟨_,_,by rw [e];exact e2,?_⟩
 rw [drop_cons (l:=g) (by omega:j < g.length),canF,e,e2]
 rfl
theorem rp1 {k:Nat} (hk:100400<=k) {p:Prg} (hp:FitP p) (hs:smallP p = true) (g:List (List Int)) (hg:∀ l ∈ g,SL p l) (hgl:g.length<=4000) (h1:1<=g.length):∀ (j n:Nat) (xs:List (List Int)),j < n->j < g.length->xs = g.take j ++ canF p (g.drop j) ->
  L92_1 k n ((g.length:Int) - 1) g.length (encZZ (graphL p)) ((j:Int) - 1) (encZZ xs) = J92_2 k ((g.length:Int) - 1) (encZZ (canF p g)) (encZZ (graphL p))
 | j,0,xs,h,hj,hx=>by omega
 | 0,n + 1,xs,h,hj,hx=>by
  have hd:decide (((0:Nat):Int) - 1>=0) = false:=rfl
  have e:xs = canF p g:=by rw [hx];simp
  have ht:(encZZ (canF p g)).take g.length = encZZ (canF p g):=List.take_of_length_le (by simp [canF_len])
  rw [sL92_1,hd,e,ht]
  rfl
 | j + 1,n + 1,xs,h,hj,hx=>by
  obtain ⟨b,l,e1,e2⟩:=canF_at (p:=p) hj
  have hd:decide (((j + 1:Nat):Int) - 1>=0) = true:=decide_eq_true (by omega)
  have hjj:((j + 1:Nat):Int) - 1 = (j:Int):=by omega
  have hd2:(decide ((0:Int)<=(j:Int)) && decide ((j:Int) < (g.length:Int))) = true:=by rw [decide_eq_true (by omega),decide_eq_true (by omega)];rfl
  have hjl:j < g.length:=by omega
  have hxl:xs.length = g.length:=by rw [hx,List.length_append,canF_len];simp;omega
  have hxj:xs[j]? = some g[j]:=by
   rw [hx,List.getElem?_append_left (by simp;omega),List.getElem?_take_of_lt (by omega),List.getElem?_eq_getElem hjl]
  have hxj1:xs[j + 1]? = some b:=by
   rw [hx,List.getElem?_append_right (by simp;omega),e1]
   have:j + 1 - (List.take (j + 1) g).length = 0:=by simp;omega
   rw [this]
   rfl
  have hsl:=hg g[j] (List.getElem_mem hjl)
  have hgj:=hsl.len hs
  have hbl:b.length<=32:=by
   have:=canF_SL (g.drop (j + 1)) (fun l hl=>hg l (List.mem_of_mem_drop hl)) b (by rw [e1];simp)
   exact this.len hs
  have hat:(encZZ xs)[0 + (j:Int).toNat]? = some (.row 0 0 (encZ g[j])):=by rw [Nat.zero_add,Int.toNat_natCast,encZZ_get,hxj];rfl
  have hset:((encZZ xs).set (0 + (j:Int).toNat) PV.junk).take g.length = (encZZ xs).set j PV.junk:=by rw [Nat.zero_add,Int.toNat_natCast];exact List.take_of_length_le (by simp [hxl])
  have hL:lookP ((encZZ xs).set j PV.junk) ((j + 1:Nat):Int) = some (.row 0 0 (encZ b)):=by
   rw [lookP_nat,List.getElem?_set_ne (by omega),encZZ_get,hxj1]
   rfl
  have hw:IntKind.i64.wrap ((j:Int) - 1) = (j:Int) - 1:=i64_id (by omega) (by omega)
  rw [sL92_1,hjj,show decide ((j:Int)>=0) = true from decide_eq_true (by omega),show (true && decide ((j:Int) < (g.length:Int))) = true from by (rw [decide_eq_true (by omega)];rfl),hat,hset]
  simp only [cond_true,Option.bind_some,row_atRow]
  rw [rpb_ok' (by omega) hp g[j] b (by omega) hsl.is (by omega) _ j (by omega) hL,R146f153p_enc]
  have hs1:((some (0 + (j:Int).toNat):Option Nat) == some (0 + (j:Int).toNat)) = true:=beq_self_eq_true _
  rw [hs1,Bool.true_and,decide_eq_true (Nat.le_refl _),encZ_length,encZ_tk,hw]
  simp only [cond_true]
  have e3:(encZZ xs).set (0 + (j:Int).toNat) (PV.row 0 0 (encZ (g[j].filter fun x=>meetI (nxL p x) b))) = encZZ (xs.set j (g[j].filter fun x=>meetI (nxL p x) b)):=by
   rw [Nat.zero_add,Int.toNat_natCast]
   unfold encZZ
   rw [List.map_set]
  rw [e3]
  refine rp1 hk hp hs g hg hgl h1 j n _ (by omega) (by omega) ?_
  rw [hx,e1,e2,List.take_succ_eq_append_getElem hjl,List.append_assoc,List.set_append_right _ _ (by simp;omega)]
  have:j - (List.take j g).length = 0:=by simp;omega
  rw [this]
  rfl
theorem rp3 {k:Nat} (hk:100400<=k) {p:Prg} (hp:FitP p) (hs:smallP p = true) (g:List (List Int)) (hg:∀ l ∈ g,SL p l) (hgl:g.length<=4000):∀ (n i:Nat) (o:List Int) (c0:List Int) (x:Int),g.length - i < n->i<=g.length->1<=i->o.length = i->o[i - 1]? = some x->x ∈ c0->inS p x->Cn p (c0 :: g.drop i) ->
  L92_3 k n ((g.length:Int) - 1) (encZZ g) (encZZ (graphL p)) i (i:Int) (encZ o) = r92 (encZ (o ++ goP p x (g.drop i)))
 | 0,i,o,c0,x,h,hi,h1,ho,hx,hc,hin,hcn=>by omega
 | n + 1,i,o,c0,x,h,hi,h1,ho,hx,hc,hin,hcn=>by
  have eo:(encZ o).take i = encZ o:=List.take_of_length_le (by simp [ho])
  rw [sL92_3,eo]
  by_cases hlt:i < g.length
  ·have hd:decide ((i:Int)<=(g.length:Int) - 1) = true:=decide_eq_true (by omega)
   have hnext:IntKind.i64.wrap ((i:Int) + 1) = ((i + 1:Nat):Int):=by rw [i64_id (by omega) (by omega)];omega
   have hprev:IntKind.i64.wrap ((i:Int) - 1) = ((i - 1:Nat):Int):=by rw [i64_id (by omega) (by omega)];omega
   have hsl:=hg g[i] (List.getElem_mem hlt)
   have hgi:=hsl.len hs
   rw [drop_cons hlt] at hcn
   have hstep:=stepP_mem (p:=p) (x:=x) (c:=g[i]) (hcn.1 g[i] rfl x hc)
   have hlk:lookP (encZZ g) (i:Int) = some (.row 0 0 (encZ g[i])):=by rw [lookP_nat,encZZ_get,List.getElem?_eq_getElem hlt];rfl
   have hlo:lookP (encZ o) ((i - 1:Nat):Int) = some (.int .i64 x):=by rw [lookP_nat,encZ_get,hx];rfl
   have hnl:=nxL_len hp x
   obtain ⟨k,rfl⟩:∃ j,k = j + 1:=⟨k - 1,by omega⟩
   rw [hd,hlk]
   simp only [cond_true,Option.bind_some,row_atRow]
   rw [rpc_idx (k:=k) (by omega) (encZZ (graphL p)) (encZ o) (i:Int) (fun y=>(nxL p x).contains y) g[i] (by omega) (fun y hy=>by
    obtain ⟨k,rfl⟩:∃ j,k = j + 1:=⟨k - 1,by omega⟩
    rw [n155,hprev,hlo]
    simp only [Option.bind_some,int_atInt]
    rw [(graph_grF p).bind (by rw [graphL_len];exact inG_in.2 hin),graph_nx hin,contains1_ok (by omega) (nxL p x) (by omega)]
    simp only [R65_r])]
   simp only [R124f155p_r]
   have hfind:∃ j,∃ hj:j < g[i].length,fixI (fun y=>(nxL p x).contains y) 0 g[i] = (j:Int) /\ g[i][j] = stepP p x g[i]:=by
    rcases fixI_spec (fun y=>(nxL p x).contains y) g[i] 0 with ⟨_,h2⟩ | ⟨j,hj,h2,h3,h4⟩
    ·have:=h2 _ hstep.1
     rw [List.contains_iff_mem.2 hstep.2] at this
     cases this
    ·refine ⟨j,hj,by rw [h2,Nat.zero_add],?_⟩
     unfold stepP
     have:g[i].find? (fun y=>(nxL p x).contains y) = some g[i][j]:=by
      rw [List.find?_eq_some_iff_getElem]
      exact ⟨h3,j,hj,rfl,fun j' hj'=>by rw [h4 j' hj'];rfl⟩
     rw [this]
     rfl
   obtain ⟨j,hj,hf1,hf2⟩:=hfind
   rw [hf1,encZ_lookup hj,hf2]
   simp only [Option.bind_some,int_atInt]
   rw [lim_ok (by omega) (by omega),encZ_snoc,hnext]
   simp only [cond_true]
   have:=rp3 (k:=k + 1) (by omega) hp hs g hg hgl n (i + 1) (o ++ [stepP p x g[i]]) g[i] (stepP p x g[i]) (by omega) (by omega) (by omega) (by simp;omega) (by rw [Nat.add_sub_cancel,List.getElem?_append_right (by omega)];simp [ho]) hstep.1 (hsl.is _ hstep.1) hcn.2
   rw [this,drop_cons hlt,goP,List.append_assoc]
   rfl
  ·have hd:decide ((i:Int)<=(g.length:Int) - 1) = false:=decide_eq_false (by omega)
   have hoe:(encZ o).isEmpty = false:=by
    cases o with
    | nil=>simp at ho;omega
    | cons y o=>rfl
   rw [hd,List.drop_eq_nil_of_le (by omega),goP,List.append_nil,hoe]
   rfl
def realR (p:Prg) (g:List (List Int)):List Int:=bif decide (0<=failL g) then [] else realL p g
theorem can_head {p:Prg} (g:List (List Int)) (h:∀ l ∈ canF p g,l ≠ []) (h0:g ≠ []):∃ x xs l,canF p g = (x :: xs) :: l:=by
 cases hc:canF p g with
 | nil =>
  have:=canF_len p g
  rw [hc] at this
  exact absurd (List.eq_nil_of_length_eq_zero this.symm) h0
 | cons c l =>
  cases hcc:c with
  | nil=>exact absurd hcc (h c (by rw [hc];simp))
  | cons x xs=>exact ⟨x,xs,l,rfl⟩
theorem realPath_ok {k:Nat} (hk:1000600<=k) {p:Prg} (hp:FitP p) (hs:smallP p = true) {v:List Int} (hn:v.length = nS p) (path:List Int) (h0:path ≠ []) (hpl:path.length<=4000):c92 k p.wide p.vars (encT p.start) (encCms p.cmds) (encZ v) (encZ path) = r92 (encZ (realR p (alongL p v path))):=by
 obtain ⟨k,rfl⟩:∃ j,k = j + 2:=⟨k - 2,by omega⟩
 have hgl:=alongL_len p v path
 have hg:=alongL_SL hp hs v path
 have hpos:1<=path.length:=Nat.pos_of_ne_zero fun h=>h0 (List.eq_nil_of_length_eq_zero h)
 have hg0:alongL p v path ≠ []:=by intro h;rw [h] at hgl;simp at hgl;omega
 rw [n92,statesAlong_ok (by omega) hp hs hn path hpl]
 simp only [R98_r,encZZ_length]
 have ht:(encZZ (alongL p v path)).take (alongL p v path).length = encZZ (alongL p v path):=List.take_of_length_le (by simp)
 rw [graph_ok (by omega) hp hs]
 simp only [R133_r]
 rw [ht,failsAt_ok (by omega) _ (by omega)]
 simp only [R97p_r,realR]
 rw [show decide (failL (alongL p v path)>=0) = decide (0<=failL (alongL p v path)) from rfl]
 cases hf:decide (0<=failL (alongL p v path))
 rotate_left
 ·rfl
 have hf':¬ 0<=failL (alongL p v path):=of_decide_eq_false hf
 have e1:IntKind.i64.wrap (((alongL p v path).length:Int) - 1) = ((alongL p v path).length:Int) - 1:=i64_id (by omega) (by omega)
 have e2:IntKind.i64.wrap (((alongL p v path).length:Int) - 1 - 1) = (((alongL p v path).length - 1:Nat):Int) - 1:=by rw [i64_id (by omega) (by omega)];omega
 simp only [cond_false]
 rw [e1,e2,rp1 (k:=k + 1) (by omega) hp hs (alongL p v path) hg (by omega) (by omega) ((alongL p v path).length - 1) (k + 1) (alongL p v path) (by omega) (by omega) (by
  have hll:(alongL p v path).length - 1 < (alongL p v path).length:=by omega
  have e3:(alongL p v path).drop ((alongL p v path).length - 1) = [(alongL p v path)[(alongL p v path).length - 1]]:=by
   rw [drop_cons hll,List.drop_eq_nil_of_le (by omega)]
  rw [e3]
  have e4:canF p [(alongL p v path)[(alongL p v path).length - 1]] = [(alongL p v path)[(alongL p v path).length - 1]]:=rfl
  rw [e4,<- e3,List.take_append_drop])]
 have hne:=canF_ne p (alongL p v path) (alongF_lnk p v path _) (failL_none hf')
 have hcn:=canF_cn p (alongL p v path)
 have hcs:=canF_SL (alongL p v path) hg
 obtain ⟨x,xs,l,hc⟩:=can_head (p:=p) (alongL p v path) hne hg0
 have hlk:lookP (encZZ (canF p (alongL p v path))) 0 = some (.row 0 0 (encZ (x :: xs))):=by
  rw [hc];rfl
 have hlk2:lookP (encZ (x :: xs)) 0 = some (.int .i64 x):=rfl
 rw [sJ92_2,hlk]
 simp only [Option.bind_some,row_atRow]
 rw [hlk2]
 simp only [Option.bind_some,int_atInt]
 have hin:inS p x:=(hcs (x :: xs) (by rw [hc];simp)).is x (by simp)
 have hcl:=canF_len p (alongL p v path)
 have hgo:=rp3 (k:=k + 1) (by omega) hp hs (canF p (alongL p v path)) hcs (by omega) (k + 1) 1 [x] (x :: xs) x (by omega) (by omega) (by omega) rfl rfl (by simp) hin (by rw [hc] at hcn ⊢;exact hcn)
 rw [hcl] at hgo
 have e5:realL p (alongL p v path) = [x] ++ goP p x ((canF p (alongL p v path)).drop 1):=by
  unfold realL
  rw [hc]
  rfl
 rw [e5]
 exact hgo
theorem sr2 {k:Nat} (hk:1000300<=k) {p:Prg} (hp:FitP p) (hs:smallP p = true) (l0:List PV) (g cs:List (List Int)) (n1:Nat) (j:Nat) (hj:j + 1 < 4000) (hcl:cs.length = g.length) (hjl:j + 1 < g.length) (b:List Int) (hb:cs[j + 1]? = some b) (hbl:b.length<=32) (w:List Int) (hw:SL p w):∀ (n q:Nat) (acc:List Int),w.length - q < n->q<=w.length->acc = (w.take q).filter (fun x=>meetI (nxL p x) b) ->
  L96_2 k n1 n (encZZ g) g.length (j:Int) acc.length (encZ w) (w.length:Int) (q:Int) p.wide p.vars l0 (encCms p.cmds) (encZZ cs) (encZ acc) =
   L96_1 k n1 (encZZ g) g.length (IntKind.i64.wrap ((j:Int) - 1)) p.wide p.vars l0 (encCms p.cmds) (encZZ (cs.set j (w.filter fun x=>meetI (nxL p x) b)))
 | 0,q,acc,h,hq,ha=>by omega
 | n + 1,q,acc,h,hq,ha=>by
  have hwl:=hw.len hs
  have hal:acc.length<=w.length:=by rw [ha];exact Nat.le_trans (List.length_filter_le _ _) (by simp;omega)
  rw [sL96_2,encZ_tk]
  by_cases hlt:q < w.length
  ·have hd:decide ((q:Int) < (w.length:Int)) = true:=by simpa using hlt
   have hnext:IntKind.i64.wrap ((q:Int) + 1) = ((q + 1:Nat):Int):=by rw [i64_id (by omega) (by omega)];omega
   have hj1:IntKind.i64.wrap ((j:Int) + 1) = ((j + 1:Nat):Int):=by rw [i64_id (by omega) (by omega)];omega
   have hd2:(decide ((0:Int)<=((j + 1:Nat):Int)) && decide (((j + 1:Nat):Int) < (g.length:Int))) = true:=by rw [decide_eq_true (by omega),decide_eq_true (by omega)];rfl
   have hx:=hw.is _ (List.getElem_mem hlt)
   have hnl:=nxL_len hp w[q]
   have hat:(encZZ cs)[0 + (((j + 1:Nat):Int)).toNat]? = some (.row 0 0 (encZ b)):=by rw [Nat.zero_add,Int.toNat_natCast,encZZ_get,hb];rfl
   have ht:w.take (q + 1) = w.take q ++ [w[q]]:=List.take_succ_eq_append_getElem hlt
   rw [hd,encZ_lookup hlt,hj1,hd2,hat,hnext]
   simp only [cond_true,Option.bind_some,int_atInt,row_atRow]
   rw [nextS_ok (by omega) hp hs hx]
   simp only [R111_r]
   rw [meetS_ok (by omega) (nxL p w[q]) b (by omega) (by omega)]
   simp only [R75_r]
   cases hc:meetI (nxL p w[q]) b
   ·exact sr2 hk hp hs l0 g cs n1 j hj hcl hjl b hb hbl w hw n (q + 1) acc (by omega) (by omega) (by rw [ht,ha,List.filter_append];simp [hc])
   ·simp only [cond_true]
    rw [lim_ok (by omega) (by omega),encZ_snoc]
    have:=sr2 hk hp hs l0 g cs n1 j hj hcl hjl b hb hbl w hw n (q + 1) (acc ++ [w[q]]) (by omega) (by omega) (by rw [ht,ha,List.filter_append];simp [hc])
    rw [List.length_append] at this
    exact this
  ·have hd:decide ((q:Int) < (w.length:Int)) = false:=by simpa using hlt
   have ej:w.take q = w:=List.take_of_length_le (by omega)
   rw [ej] at ha
   have hd2:(decide ((0:Int)<=(j:Int)) && decide ((j:Int) < (g.length:Int))) = true:=by rw [decide_eq_true (by omega),decide_eq_true (by omega)];rfl
   obtain ⟨z,hz⟩:∃ z,(encZZ cs)[0 + (j:Int).toNat]? = some z:=⟨_,List.getElem?_eq_getElem (by rw [Nat.zero_add,Int.toNat_natCast,encZZ_length];omega)⟩
   have e3:(encZZ cs).set (0 + (j:Int).toNat) (PV.row 0 0 (encZ acc)) = encZZ (cs.set j acc):=by
    rw [Nat.zero_add,Int.toNat_natCast]
    unfold encZZ
    rw [List.map_set]
   rw [hd,hd2,hz]
   simp only [cond_true,cond_false,Option.bind_some]
   rw [e3,ha]
theorem sr4 {k:Nat} (hk:100100<=k) {p:Prg} (hs:smallP p = true) (l0:List PV) (cs:List (List Int)) (N:Nat) (hN:cs.length = N) (n1:Nat) (i:Nat) (hi:i < N) (hNl:N<=4000) (c:List Int) (hc:cs[i]? = some c) (hcl:c.length<=32) (o:List Int) (ho:o.length = i) (r:List Int) (hr:r.length<=100):∀ (n q:Nat),r.length - q < n->q<=r.length->∀ y,(r.drop q).find? (fun y=>c.contains y) = some y ->
  L96_4 k n1 n N i (i:Int) (encZ r) (r.length:Int) (q:Int) p.wide p.vars l0 (encCms p.cmds) (encZZ cs) (encZ o) =
   L96_3 k n1 N (i + 1) ((i + 1:Nat):Int) p.wide p.vars l0 (encCms p.cmds) (encZZ cs) (encZ (o ++ [y]))
 | 0,q,h,hq,y,hy=>by omega
 | n + 1,q,h,hq,y,hy=>by
  rw [sL96_4]
  by_cases hlt:q < r.length
  ·have hd:decide ((q:Int) < (r.length:Int)) = true:=by simpa using hlt
   have hnext:IntKind.i64.wrap ((q:Int) + 1) = ((q + 1:Nat):Int):=by rw [i64_id (by omega) (by omega)];omega
   have hni:IntKind.i64.wrap ((i:Int) + 1) = ((i + 1:Nat):Int):=by rw [i64_id (by omega) (by omega)];omega
   have hd2:(decide ((0:Int)<=(i:Int)) && decide ((i:Int) < (N:Int))) = true:=by rw [decide_eq_true (by omega),decide_eq_true (by omega)];rfl
   have hat:(encZZ cs)[0 + (i:Int).toNat]? = some (.row 0 0 (encZ c)):=by rw [Nat.zero_add,Int.toNat_natCast,encZZ_get,hc];rfl
   have eo:(encZ o).take i = encZ o:=List.take_of_length_le (by simp [ho])
   rw [drop_cons hlt,List.find?_cons] at hy
   rw [hd,encZ_lookup hlt,hd2,hat,hnext,hni,eo]
   simp only [cond_true,Option.bind_some,int_atInt,row_atRow]
   rw [has_ok (by omega) c (by omega)]
   simp only [R138_r]
   cases hcc:c.contains r[q]
   ·rw [hcc] at hy
    exact sr4 hk hs l0 cs N hN n1 i hi hNl c hc hcl o ho r hr n (q + 1) (by omega) (by omega) y hy
   ·rw [hcc] at hy
    simp only [cond_true]
    rw [lim_ok (by omega) (by omega),encZ_snoc]
    injection hy with hy
    rw [hy]
    rfl
  ·rw [List.drop_eq_nil_of_le (by omega)] at hy
   cases hy
theorem stepP_ref {p:Prg} {x:Int} {c:List Int} (hc:c.Pairwise (· < ·)) (h:∃ y ∈ c,y ∈ nxL p x):(nxL p x).find? (fun y=>c.contains y) = some (stepP p x c):=by
 rw [find_comm (nxL_lt p x) hc]
 unfold stepP
 cases hf:c.find? (fun y=>(nxL p x).contains y) with
 | none =>
  obtain ⟨y,h1,h2⟩:=h
  have:=List.find?_eq_none.1 hf y h1
  rw [List.contains_iff_mem.2 h2] at this
  exact absurd rfl this
 | some y=>rfl
theorem sr3 {k:Nat} (hk:1000300<=k) {p:Prg} (hp:FitP p) (hs:smallP p = true) (l0:List PV) (g:List (List Int)) (hg:∀ l ∈ g,SL p l) (hgl:g.length<=4000):∀ (n i:Nat) (o:List Int) (c0:List Int) (x:Int),g.length - i < n->i<=g.length->1<=i->o.length = i->o[i - 1]? = some x->x ∈ c0->inS p x->Cn p (c0 :: g.drop i) ->
  L96_3 k n g.length i (i:Int) p.wide p.vars l0 (encCms p.cmds) (encZZ g) (encZ o) = r96 (encZ (o ++ goP p x (g.drop i)))
 | 0,i,o,c0,x,h,hi,h1,ho,hx,hc,hin,hcn=>by omega
 | n + 1,i,o,c0,x,h,hi,h1,ho,hx,hc,hin,hcn=>by
  have eo:(encZ o).take i = encZ o:=List.take_of_length_le (by simp [ho])
  rw [sL96_3,eo]
  by_cases hlt:i < g.length
  ·have hd:decide ((i:Int) < (g.length:Int)) = true:=by simpa using hlt
   have hprev:IntKind.i64.wrap ((i:Int) - 1) = ((i - 1:Nat):Int):=by rw [i64_id (by omega) (by omega)];omega
   have hd2:(decide ((0:Int)<=((i - 1:Nat):Int)) && decide (((i - 1:Nat):Int) < (i:Int))) = true:=by rw [decide_eq_true (by omega),decide_eq_true (by omega)];rfl
   have hat:(encZ o)[0 + (((i - 1:Nat):Int)).toNat]? = some (.int .i64 x):=by rw [Nat.zero_add,Int.toNat_natCast,encZ_get,hx];rfl
   have hsl:=hg g[i] (List.getElem_mem hlt)
   have hgi:=hsl.len hs
   rw [drop_cons hlt] at hcn
   have hex:=hcn.1 g[i] rfl x hc
   have hstep:=stepP_mem (p:=p) (x:=x) (c:=g[i]) hex
   have hnl:=nxL_len hp x
   rw [hd,hprev,hd2,hat]
   simp only [cond_true,Option.bind_some,int_atInt]
   rw [nextS_ok (by omega) hp hs hin]
   simp only [R111_r]
   have h4:=sr4 (k:=k) (by omega) hs l0 g g.length rfl n i hlt hgl g[i] (List.getElem?_eq_getElem hlt) (by omega) o ho (nxL p x) (by omega) k 0 (by omega) (by omega) (stepP p x g[i]) (stepP_ref hsl.lt hex)
   have h4':L96_4 k n k g.length i (i:Int) (encZ (nxL p x)) ((nxL p x).length:Int) 0 p.wide p.vars l0 (encCms p.cmds) (encZZ g) (encZ o) = _:=h4
   rw [encZ_length,h4']
   have:=sr3 hk hp hs l0 g hg hgl n (i + 1) (o ++ [stepP p x g[i]]) g[i] (stepP p x g[i]) (by omega) (by omega) (by omega) (by simp;omega) (by rw [Nat.add_sub_cancel,List.getElem?_append_right (by omega)];simp [ho]) hstep.1 (hsl.is _ hstep.1) hcn.2
   rw [this,drop_cons hlt,goP,List.append_assoc]
   rfl
  ·have hd:decide ((i:Int) < (g.length:Int)) = false:=by simpa using hlt
   rw [hd,List.drop_eq_nil_of_le (by omega),goP,List.append_nil]
   rfl
theorem sr1 {k:Nat} (hk:1000300<=k) {p:Prg} (hp:FitP p) (hs:smallP p = true) (l0:List PV) (g:List (List Int)) (hg:∀ l ∈ g,SL p l) (hgl:g.length<=3990) (h1:1<=g.length) (x:Int) (xs:List Int) (l:List (List Int)) (hc:canF p g = (x :: xs) :: l):∀ (j n:Nat) (cs:List (List Int)),j < n->j < g.length->cs = g.take j ++ canF p (g.drop j) ->
  L96_1 k n (encZZ g) g.length ((j:Int) - 1) p.wide p.vars l0 (encCms p.cmds) (encZZ cs) = r96 (encZ (realL p g))
 | j,0,cs,h,hj,hx=>by omega
 | 0,n + 1,cs,h,hj,hx=>by
  have hd:decide (((0:Nat):Int) - 1>=0) = false:=rfl
  have e:cs = canF p g:=by rw [hx];simp
  have hcs:=canF_SL g hg
  have hcn:=canF_cn p g
  have hcl:=canF_len p g
  have hp0:decide ((0:Int) < (g.length:Int)) = true:=decide_eq_true (by omega)
  have e0:(encZZ (canF p g))[0]? = some (.row 0 0 (encZ (x :: xs))):=by rw [hc];rfl
  have e1:lookP (encZ (x :: xs)) 0 = some (.int .i64 x):=rfl
  have hin:inS p x:=(hcs (x :: xs) (by rw [hc];simp)).is x (by simp)
  rw [sL96_1,hd,e,hp0,e0]
  simp only [cond_false,cond_true,Option.bind_some,row_atRow]
  rw [e1]
  simp only [Option.bind_some,int_atInt]
  have hgo:=sr3 (k:=k) hk hp hs l0 (canF p g) hcs (by omega) k 1 [x] (x :: xs) x (by omega) (by omega) (by omega) rfl rfl (by simp) hin (by rw [hc] at hcn ⊢;exact hcn)
  rw [hcl] at hgo
  have e5:realL p g = [x] ++ goP p x ((canF p g).drop 1):=by
   unfold realL
   rw [hc]
   rfl
  rw [e5]
  exact hgo
 | j + 1,n + 1,cs,h,hj,hx=>by
  obtain ⟨b,l',e1,e2⟩:=canF_at (p:=p) hj
  have hjl:j < g.length:=by omega
  have hd:decide (((j + 1:Nat):Int) - 1>=0) = true:=decide_eq_true (by omega)
  have hjj:((j + 1:Nat):Int) - 1 = (j:Int):=by omega
  have hxl:cs.length = g.length:=by rw [hx,List.length_append,canF_len];simp;omega
  have hxj1:cs[j + 1]? = some b:=by
   rw [hx,List.getElem?_append_right (by simp;omega),e1]
   have:j + 1 - (List.take (j + 1) g).length = 0:=by simp;omega
   rw [this]
   rfl
  have hsl:=hg g[j] (List.getElem_mem hjl)
  have hgj:=hsl.len hs
  have hbl:b.length<=32:=by
   have:=canF_SL (g.drop (j + 1)) (fun l hl=>hg l (List.mem_of_mem_drop hl)) b (by rw [e1];simp)
   exact this.len hs
  have hw:IntKind.i64.wrap ((j:Int) - 1) = (j:Int) - 1:=i64_id (by omega) (by omega)
  have hlk:lookP (encZZ g) (j:Int) = some (.row 0 0 (encZ g[j])):=by rw [lookP_nat,encZZ_get,List.getElem?_eq_getElem hjl];rfl
  rw [sL96_1,hjj,show decide ((j:Int)>=0) = true from decide_eq_true (by omega),hlk]
  simp only [cond_true,Option.bind_some,row_atRow]
  have h2:=sr2 (k:=k) hk hp hs l0 g cs n j (by omega) hxl hj b hxj1 hbl g[j] hsl k 0 [] (by omega) (by omega) (by simp)
  have h2':L96_2 k n k (encZZ g) g.length (j:Int) 0 (encZ g[j]) ((g[j]).length:Int) 0 p.wide p.vars l0 (encCms p.cmds) (encZZ cs) [] = _:=h2
  rw [encZ_length,h2',hw]
  refine sr1 hk hp hs l0 g hg hgl h1 x xs l hc j n _ (by omega) (by omega) ?_
  rw [hx,e1,e2,List.take_succ_eq_append_getElem hjl,List.append_assoc,List.set_append_right _ _ (by simp;omega)]
  have:j - (List.take j g).length = 0:=by simp;omega
  rw [this]
  rfl
theorem l19Real_ok {k:Nat} (hk:1000400<=k) {p:Prg} (hp:FitP p) (hs:smallP p = true) {v:List Int} (path:List Int) (h0:path ≠ []) (hpl:path.length<=3900) (hf':¬ 0<=failL (alongL p v path)):c96 k p.wide p.vars (encT p.start) (encCms p.cmds) (encZZ (alongL p v path)) = r96 (encZ (realL p (alongL p v path))):=by
 obtain ⟨k,rfl⟩:∃ j,k = j + 1:=⟨k - 1,by omega⟩
 have hgl:=alongL_len p v path
 have hg:=alongL_SL hp hs v path
 have hpos:1<=path.length:=Nat.pos_of_ne_zero fun h=>h0 (List.eq_nil_of_length_eq_zero h)
 have hg0:alongL p v path ≠ []:=by intro h;rw [h] at hgl;simp at hgl;omega
 have hne:=canF_ne p (alongL p v path) (alongF_lnk p v path _) (failL_none hf')
 obtain ⟨x,xs,l,hc⟩:=can_head (p:=p) (alongL p v path) hne hg0
 rw [n96,encZZ_length,Nat.zero_add,Int.zero_add,List.nil_append,lim_ok (by omega) (by omega)]
 simp only [cond_true]
 by_cases h2:2<=(alongL p v path).length
 ·have e2:IntKind.i64.wrap (((alongL p v path).length:Int) - 2) = (((alongL p v path).length - 1:Nat):Int) - 1:=by rw [i64_id (by omega) (by omega)];omega
  rw [e2]
  exact sr1 (k:=k) (by omega) hp hs _ (alongL p v path) hg (by omega) (by omega) x xs l hc ((alongL p v path).length - 1) k _ (by omega) (by omega) (by
   have hll:(alongL p v path).length - 1 < (alongL p v path).length:=by omega
   have e3:(alongL p v path).drop ((alongL p v path).length - 1) = [(alongL p v path)[(alongL p v path).length - 1]]:=by
    rw [drop_cons hll,List.drop_eq_nil_of_le (by omega)]
   rw [e3]
   have e4:canF p [(alongL p v path)[(alongL p v path).length - 1]] = [(alongL p v path)[(alongL p v path).length - 1]]:=rfl
   rw [e4,<- e3,List.take_append_drop])
 ·have e1:(alongL p v path).length = 1:=by omega
  have e2:IntKind.i64.wrap (((alongL p v path).length:Int) - 2) = ((0:Nat):Int) - 1:=by rw [e1];rfl
  rw [e2]
  exact sr1 (k:=k) (by omega) hp hs _ (alongL p v path) hg (by omega) (by omega) x xs l hc 0 k _ (by omega) (by omega) (by
   obtain ⟨a,ha⟩:∃ a,alongL p v path = [a]:=by
    cases hh:alongL p v path with
    | nil=>rw [hh] at e1;simp at e1
    | cons a rest =>
     rw [hh] at e1
     have:rest = []:=List.eq_nil_of_length_eq_zero (by simpa using e1)
     exact ⟨a,by rw [this]⟩
   rw [ha]
   rfl)
end Go.Proofs.YthoecdnmokcfbaaGreat
/- FnSureNever: what is excluded from the reachable classes never holds;a finer sight excludes it too. -/
set_option linter.unusedVariables false
set_option linter.unusedSimpArgs false
set_option maxRecDepth 8000
namespace Go.Proofs.YthoecdnmokcfbaaGreat
open Go.Dp
def clB (p:Prg) (v:List Int) (c:Int):Bool:=gsB p v && (decide (0<=c) && decide (c < manyF v 0))
theorem class17_ok {k:Nat} (hk:1000600<=k) (p:Prg) (hp:FitP p) {v:List Int} (hv:OkV v) (c:Int):c86 k p.wide p.vars (encT p.start) (encCms p.cmds) (encZ v) c = r86 (clB p v c):=by
 obtain ⟨k,rfl⟩:∃ j,k = j + 1:=⟨k - 1,by omega⟩
 have hvl:=hv.len
 rw [n86,goodSightS_ok (by omega) p hp v (by omega)]
 simp only [R51_r,clB]
 cases hgs:gsB p v
 · rfl
 obtain ⟨s1,s2,s3⟩:=gs_small hgs
 have hml:=many_le s2
 simp only [cond_true,Bool.true_and]
 rw [many15_ok (by omega) (by omega) s2]
 simp only [R117_r]
 rw [i64_id (by omega) (by omega),in_ok (by omega)]
 simp only [R52_r]
 congr 2
 rw [decide_eq_decide]
 omega
theorem ClassStepsS_ok {k:Nat} (hk:1000800<=k) (p:Prg) (hp:FitP p) {v:List Int} (hv:OkV v) (c:Int):c31 k p.wide p.vars (encT p.start) (encCms p.cmds) (encZ v) c = r31 (encZ (bif clB p v c then stpL p v c else [])) (clB p v c):=by
 obtain ⟨k,rfl⟩:∃ j,k = j + 1:=⟨k - 1,by omega⟩
 rw [n31,class17_ok (by omega) p hp hv]
 simp only [R86_r]
 cases hc:clB p v c
 · rfl
 have hc2:=hc
 simp only [clB,Bool.and_eq_true] at hc2
 obtain ⟨s1,s2,s3⟩:=gs_small hc2.1
 simp only [Bool.not_true,cond_false,cond_true]
 rw [steps17_ok (by omega) hp s1 _ hv s3]
 simp only [R89_r]
end Go.Proofs.YthoecdnmokcfbaaGreat
/- Paths of classes: what both sides hand out,and what is drawn. -/
set_option linter.unusedVariables false
set_option linter.unusedSimpArgs false
set_option maxRecDepth 8000
namespace Go.Proofs.YthoecdnmokcfbaaGreat
open Go.Dp
def alongR (p:Prg) (v path:List Int):List (List Int):=bif cpathB p v path 200 then alongL p v path else []
def failOK (p:Prg) (v path:List Int):Bool:=cpathB p v path 200 && decide (0<=failL (alongL p v path))
def failR (p:Prg) (v path:List Int):Int:=bif failOK p v path then failL (alongL p v path) else 0
def rpOK (p:Prg) (v path:List Int):Bool:=cpathB p v path 200 && !decide (0<=failL (alongL p v path))
def rpR (p:Prg) (v path:List Int):List Int:=bif rpOK p v path then realL p (alongL p v path) else []
theorem path_len {p:Prg} {v path:List Int} (h:cpathB p v path 200 = true):1<=path.length /\ path.length<=200 /\ path ≠ []:=by
 obtain ⟨_,h1,h2,_⟩:=cpath_facts h
 exact ⟨h1,by omega,by rintro rfl;simp at h1⟩
theorem StatesAlongI_ok {k:Nat} (hk:1000700<=k) (p:Prg) (hp:FitP p) {v:List Int} (hv:OkV v) (path:List Int) (hl:path.length<=1000):c38 k p.wide p.vars (encT p.start) (encCms p.cmds) (encZ v) (encZ path) = r38 (encZZ (alongR p v path)) (cpathB p v path 200):=by
 obtain ⟨k,rfl⟩:∃ j,k = j + 1:=⟨k - 1,by omega⟩
 rw [n38,isClassPath_ok (by omega) p hp hv path (by omega)]
 simp only [R91_r,alongR]
 cases hc:cpathB p v path 200
 · rfl
 obtain ⟨hg,_,_,_⟩:=cpath_facts hc
 obtain ⟨s1,s2,s3⟩:=gs_small hg
 simp only [Bool.not_true,cond_false,cond_true]
 rw [statesAlong_ok (by omega) hp s1 s3 path (by omega)]
 simp only [R98_r,encZZ_length]
 rw [List.take_of_length_le (by simp)]
theorem StatesAlongS_ok {k:Nat} (hk:1000700<=k) (p:Prg) (hp:FitP p) {v:List Int} (hv:OkV v) (path:List Int) (hl:path.length<=1000):c39 k p.wide p.vars (encT p.start) (encCms p.cmds) (encZ v) (encZ path) = r39 (encZZ (alongR p v path)) (cpathB p v path 200):=by
 obtain ⟨k,rfl⟩:∃ j,k = j + 1:=⟨k - 1,by omega⟩
 rw [n39,l19Path_ok (by omega) p hp hv path (by omega)]
 simp only [R93_r,alongR]
 cases hc:cpathB p v path 200
 · rfl
 obtain ⟨hg,_,_,_⟩:=cpath_facts hc
 obtain ⟨s1,s2,s3⟩:=gs_small hg
 simp only [Bool.not_true,cond_false,cond_true]
 rw [l19Along_ok (by omega) hp s1 s3 path (by omega)]
 simp only [R94_r]
theorem FailsAtI_ok {k:Nat} (hk:1000700<=k) (p:Prg) (hp:FitP p) {v:List Int} (hv:OkV v) (path:List Int) (hl:path.length<=1000):c36 k p.wide p.vars (encT p.start) (encCms p.cmds) (encZ v) (encZ path) = r36 (failR p v path) (failOK p v path):=by
 obtain ⟨k,rfl⟩:∃ j,k = j + 1:=⟨k - 1,by omega⟩
 rw [n36,isClassPath_ok (by omega) p hp hv path (by omega)]
 simp only [R91_r,failR,failOK]
 cases hc:cpathB p v path 200
 ·rfl
 obtain ⟨hg,_,_,_⟩:=cpath_facts hc
 obtain ⟨s1,s2,s3⟩:=gs_small hg
 have hpl:=path_len hc
 simp only [Bool.not_true,cond_false,Bool.true_and]
 rw [statesAlong_ok (by omega) hp s1 s3 path (by omega)]
 simp only [R98_r,encZZ_length]
 rw [List.take_of_length_le (by simp),failsAt_ok (by omega) _ (by rw [alongL_len];omega)]
 simp only [R97p_r]
 have hr:=failL_rng (alongL p v path)
 by_cases h:0<=failL (alongL p v path)
 ·have e:maxI 0 (failL (alongL p v path)) = failL (alongL p v path):=by
   unfold maxI
   by_cases h2:failL (alongL p v path) > 0
   ·rw [decide_eq_true h2];rfl
   ·rw [decide_eq_false h2];show (0:Int) = _;omega
  rw [e,decide_eq_true h]
  rfl
 ·have e:maxI 0 (failL (alongL p v path)) = 0:=by
   unfold maxI
   rw [decide_eq_false (by omega)]
   rfl
  rw [e,decide_eq_false h]
  rfl
theorem FailsAtS_ok {k:Nat} (hk:1000700<=k) (p:Prg) (hp:FitP p) {v:List Int} (hv:OkV v) (path:List Int) (hl:path.length<=1000):c37 k p.wide p.vars (encT p.start) (encCms p.cmds) (encZ v) (encZ path) = r37 (failR p v path) (failOK p v path):=by
 obtain ⟨k,rfl⟩:∃ j,k = j + 1:=⟨k - 1,by omega⟩
 rw [n37,l19Path_ok (by omega) p hp hv path (by omega)]
 simp only [R93_r,failR,failOK]
 cases hc:cpathB p v path 200
 ·rfl
 obtain ⟨hg,_,_,_⟩:=cpath_facts hc
 obtain ⟨s1,s2,s3⟩:=gs_small hg
 have hpl:=path_len hc
 simp only [Bool.not_true,cond_false,Bool.true_and]
 rw [l19Along_ok (by omega) hp s1 s3 path (by omega)]
 simp only [R94_r]
 rw [l19Fails_ok (by omega) _ (by rw [alongL_len];omega)]
 simp only [R95_r]
 by_cases h:0<=failL (alongL p v path)
 ·rw [decide_eq_true h,decide_eq_false (by omega)]
  rfl
 ·rw [decide_eq_false h,decide_eq_true (by omega)]
  rfl
theorem RealPathI_ok {k:Nat} (hk:1000700<=k) (p:Prg) (hp:FitP p) {v:List Int} (hv:OkV v) (path:List Int) (hl:path.length<=1000):c34 k p.wide p.vars (encT p.start) (encCms p.cmds) (encZ v) (encZ path) = r34 (encZ (rpR p v path)) (rpOK p v path):=by
 obtain ⟨k,rfl⟩:∃ j,k = j + 1:=⟨k - 1,by omega⟩
 rw [n34,isClassPath_ok (by omega) p hp hv path (by omega)]
 simp only [R91_r,rpR,rpOK]
 cases hc:cpathB p v path 200
 ·rfl
 obtain ⟨hg,_,_,_⟩:=cpath_facts hc
 obtain ⟨s1,s2,s3⟩:=gs_small hg
 obtain ⟨q1,q2,q3⟩:=path_len hc
 simp only [Bool.not_true,cond_false,Bool.true_and]
 rw [realPath_ok (by omega) hp s1 s3 path q3 (by omega)]
 simp only [R92_r,realR]
 cases hf:decide (0<=failL (alongL p v path))
 ·obtain ⟨x,l,h1,_⟩:=realL_ok hp s1 v path q3 (of_decide_eq_false hf)
  simp only [cond_false,Bool.not_false,cond_true]
  rw [h1]
  rfl
 ·rfl
theorem RealPathS_ok {k:Nat} (hk:1000700<=k) (p:Prg) (hp:FitP p) {v:List Int} (hv:OkV v) (path:List Int) (hl:path.length<=1000):c35 k p.wide p.vars (encT p.start) (encCms p.cmds) (encZ v) (encZ path) = r35 (encZ (rpR p v path)) (rpOK p v path):=by
 obtain ⟨k,rfl⟩:∃ j,k = j + 1:=⟨k - 1,by omega⟩
 rw [n35,l19Path_ok (by omega) p hp hv path (by omega)]
 simp only [R93_r,rpR,rpOK]
 cases hc:cpathB p v path 200
 ·rfl
 obtain ⟨hg,_,_,_⟩:=cpath_facts hc
 obtain ⟨s1,s2,s3⟩:=gs_small hg
 obtain ⟨q1,q2,q3⟩:=path_len hc
 simp only [Bool.not_true,cond_false,Bool.true_and]
 rw [l19Along_ok (by omega) hp s1 s3 path (by omega)]
 simp only [R94_r]
 rw [l19Fails_ok (by omega) _ (by rw [alongL_len];omega)]
 simp only [R95_r]
 rw [show decide (failL (alongL p v path)>=0) = decide (0<=failL (alongL p v path)) from rfl]
 cases hf:decide (0<=failL (alongL p v path))
 ·simp only [cond_false,Bool.not_false,cond_true]
  rw [l19Real_ok (by omega) hp s1 path q3 (by omega) (of_decide_eq_false hf)]
  simp only [R96_r]
 ·rfl
def deadL (p:Prg) (v path:List Int):List Int:=((alongL p v path)[(failL (alongL p v path) - 1).toNat]?).getD []
def deOK (p:Prg) (v path:List Int):Bool:=decide (1<=failL (alongL p v path))
def deadB (p:Prg) (v path:List Int):Bool:=cpathB p v path 200 && deOK p v path
def deadR (p:Prg) (v path:List Int):List Int:=bif deadB p v path then deadL p v path else []
theorem dead_at {p:Prg} {v path:List Int} (h:deOK p v path = true):∃ j,j + 1 < path.length /\ failL (alongL p v path) = ((j + 1:Nat):Int) /\ (alongL p v path)[j]? = some (deadL p v path) /\ (alongL p v path)[j + 1]? = some [] /\ deadL p v path ≠ []:=by
 have h1:1<=failL (alongL p v path):=of_decide_eq_true h
 obtain ⟨j,hj,h2,h3,h4⟩:=failL_some (show 0<=failL (alongL p v path) by omega)
 have hl:=alongL_len p v path
 obtain ⟨i,rfl⟩:∃ i,j = i + 1:=⟨j - 1,by omega⟩
 have hi:i < (alongL p v path).length:=by omega
 have e:(failL (alongL p v path) - 1).toNat = i:=by omega
 have e2:deadL p v path = (alongL p v path)[i]:=by
  unfold deadL
  rw [e,List.getElem?_eq_getElem hi]
  rfl
 refine ⟨i,by omega,h2,by rw [e2];exact List.getElem?_eq_getElem hi,by rw [List.getElem?_eq_getElem hj,h3],?_⟩
 rw [e2]
 exact h4 i (by omega)
theorem deadEnds_ok {k:Nat} (hk:1000600<=k) {p:Prg} (hp:FitP p) (hs:smallP p = true) {v:List Int} (hn:v.length = nS p) (path:List Int) (hpl:path.length<=4000):c99 k p.wide p.vars (encT p.start) (encCms p.cmds) (encZ v) (encZ path) = r99 (encZ (bif deOK p v path then deadL p v path else [])) (deOK p v path):=by
 obtain ⟨k,rfl⟩:∃ j,k = j + 2:=⟨k - 2,by omega⟩
 have hl:=alongL_len p v path
 rw [n99,statesAlong_ok (by omega) hp hs hn path hpl]
 simp only [R98_r,encZZ_length]
 rw [List.take_of_length_le (by simp),sJ99_1,failsAt_ok (by omega) _ (by omega)]
 simp only [R97_r]
 cases hd:deOK p v path
 ·have:¬ 1<=failL (alongL p v path):=of_decide_eq_false hd
  rw [decide_eq_true (by omega)]
  rfl
 ·obtain ⟨j,h1,h2,h3,h4,h5⟩:=dead_at hd
  have e:IntKind.i64.wrap (failL (alongL p v path) - 1) = (j:Int):=by rw [i64_id (by omega) (by omega)];omega
  rw [decide_eq_false (by omega),e,lookP_nat,encZZ_get,h3]
  rfl
theorem DeadEndsI_ok {k:Nat} (hk:1000700<=k) (p:Prg) (hp:FitP p) {v:List Int} (hv:OkV v) (path:List Int) (hl:path.length<=1000):c40 k p.wide p.vars (encT p.start) (encCms p.cmds) (encZ v) (encZ path) = r40 (encZ (deadR p v path)) (deadB p v path):=by
 obtain ⟨k,rfl⟩:∃ j,k = j + 1:=⟨k - 1,by omega⟩
 rw [n40,isClassPath_ok (by omega) p hp hv path (by omega)]
 simp only [R91_r,deadR,deadB]
 cases hc:cpathB p v path 200
 · rfl
 obtain ⟨hg,_,_,_⟩:=cpath_facts hc
 obtain ⟨s1,s2,s3⟩:=gs_small hg
 simp only [Bool.not_true,cond_false,Bool.true_and]
 rw [deadEnds_ok (by omega) hp s1 s3 path (by omega)]
 simp only [R99_r]
theorem DeadEndsS_ok {k:Nat} (hk:1000800<=k) (p:Prg) (hp:FitP p) {v:List Int} (hv:OkV v) (path:List Int) (hl:path.length<=1000):c41 k p.wide p.vars (encT p.start) (encCms p.cmds) (encZ v) (encZ path) = r41 (encZ (deadR p v path)) (deadB p v path):=by
 obtain ⟨k,rfl⟩:∃ j,k = j + 1:=⟨k - 1,by omega⟩
 rw [n41,FailsAtS_ok (by omega) p hp hv path (by omega)]
 simp only [R37_r,deadR,deadB,failR,failOK]
 cases hc:cpathB p v path 200
 ·rfl
 obtain ⟨hg,_,_,_⟩:=cpath_facts hc
 obtain ⟨s1,s2,s3⟩:=gs_small hg
 simp only [Bool.true_and]
 have hgl:=alongL_len p v path
 cases hd:deOK p v path
 ·have h1:¬ 1<=failL (alongL p v path):=of_decide_eq_false hd
  by_cases h0:0<=failL (alongL p v path)
  ·have e:failL (alongL p v path) = 0:=by omega
   rw [decide_eq_true h0,e]
   rfl
  ·rw [decide_eq_false h0]
   rfl
 ·obtain ⟨j,h1,h2,h3,h4,h5⟩:=dead_at hd
  have e:IntKind.i64.wrap (failL (alongL p v path) - 1) = (j:Int):=by rw [i64_id (by omega) (by omega)];omega
  have e0:(failL (alongL p v path) == 0) = false:=beq_eq_false_iff_ne.2 (by omega)
  rw [decide_eq_true (show 0<=failL (alongL p v path) by omega)]
  simp only [Bool.not_true,cond_false,cond_true]
  rw [e0,l19Along_ok (by omega) hp s1 s3 path (by omega)]
  simp only [R94_r,cond_false]
  rw [e,lookP_nat,encZZ_get,h3]
  rfl
theorem deadL_SL {p:Prg} (hp:FitP p) (hs:smallP p = true) (v path:List Int):SL p (deadL p v path):=by
 unfold deadL
 cases h:(alongL p v path)[(failL (alongL p v path) - 1).toNat]? with
 | none=>exact ⟨by simp,by simp⟩
 | some d=>exact alongL_SL hp hs v path d (List.mem_of_getElem? h)
theorem deadR_len {p:Prg} (hp:FitP p) (v path:List Int):(deadR p v path).length<=32:=by
 unfold deadR
 cases hd:deadB p v path
 ·simp
 ·simp only [deadB,Bool.and_eq_true] at hd
  obtain ⟨hg,_,_,_⟩:=cpath_facts hd.1
  obtain ⟨s1,s2,s3⟩:=gs_small hg
  exact (deadL_SL hp s1 v path).len s1
theorem soa_loop {k:Nat} (l0:List PV) (to:Int) (f:Int->Bool) (l:List (Int)) (hl:l.length<=100000) (hc:∀ x ∈ l,c162 k x l0 to = r162 (f x)):∀ (n i:Nat),l.length - i < n->i<=l.length->L124f162_1 k n (encZ l) l0 to (l.length:Int) (i:Int) = r124f162 (fixI f i (l.drop i))
 | 0,i,h,hi=>by omega
 | n + 1,i,h,hi=>by
  rw [sL124f162_1]
  by_cases hlt:i < l.length
  ·have hd:decide ((i:Int) < (l.length:Int)) = true:=by simpa using hlt
   have hnext:IntKind.i64.wrap ((i:Int) + 1) = ((i + 1:Nat):Int):=by rw [i64_id (by omega) (by omega)];omega
   rw [hd,encZ_lookup hlt,drop_cons hlt,hnext]
   simp only [cond_true,Option.bind_some,int_atInt]
   rw [hc _ (List.getElem_mem hlt)]
   simp only [R162_r,fixI]
   cases f l[i]
   ·exact soa_loop l0 to f l hl hc n (i + 1) (by omega) (by omega)
   ·rfl
  ·have hd:decide ((i:Int) < (l.length:Int)) = false:=by simpa using hlt
   rw [hd,List.drop_eq_nil_of_le (by omega)]
   rfl
theorem soa_idx {k:Nat} (hk:100010<=k) (l0:List PV) (to:Int) (f:Int->Bool) (l:List (Int)) (hl:l.length<=100000) (hc:∀ x ∈ l,c162 k x l0 to = r162 (f x)):c124f162 (k + 1) (encZ l) l0 to = r124f162 (fixI f 0 l):=by
 rw [n124f162,encZ_length]
 exact soa_loop (k:=k) l0 to f l hl hc k 0 (by omega) (by omega)
theorem soa_ok {k:Nat} (hk:100010<=k) (l0:List PV) (to:Int) (f:Int->Bool) (l:List (Int)) (hl:l.length<=100000) (hc:∀ x ∈ l,c162 k x l0 to = r162 (f x)):c62f162 (k + 2) (encZ l) l0 to = r62f162 (l.any f):=by
 rw [n62f162,soa_idx (by omega) l0 to f l hl hc]
 simp only [R124f162p_r,fixI_ge]
theorem sob_loop {k:Nat} (w1 v1:Int) (l1 l2 l3:List PV) (to:Int) (f:Int->Bool) (l:List (Int)) (hl:l.length<=100000) (hc:∀ x ∈ l,c161 k x w1 v1 l1 l2 l3 to = r161 (f x)):∀ (n i:Nat),l.length - i < n->i<=l.length->L124f161_1 k n (encZ l) w1 v1 l1 l2 l3 to (l.length:Int) (i:Int) = r124f161 (fixI f i (l.drop i))
 | 0,i,h,hi=>by omega
 | n + 1,i,h,hi=>by
  rw [sL124f161_1]
  by_cases hlt:i < l.length
  ·have hd:decide ((i:Int) < (l.length:Int)) = true:=by simpa using hlt
   have hnext:IntKind.i64.wrap ((i:Int) + 1) = ((i + 1:Nat):Int):=by rw [i64_id (by omega) (by omega)];omega
   rw [hd,encZ_lookup hlt,drop_cons hlt,hnext]
   simp only [cond_true,Option.bind_some,int_atInt]
   rw [hc _ (List.getElem_mem hlt)]
   simp only [R161_r,fixI]
   cases f l[i]
   ·exact sob_loop w1 v1 l1 l2 l3 to f l hl hc n (i + 1) (by omega) (by omega)
   ·rfl
  ·have hd:decide ((i:Int) < (l.length:Int)) = false:=by simpa using hlt
   rw [hd,List.drop_eq_nil_of_le (by omega)]
   rfl
theorem sob_idx {k:Nat} (hk:100010<=k) (w1 v1:Int) (l1 l2 l3:List PV) (to:Int) (f:Int->Bool) (l:List (Int)) (hl:l.length<=100000) (hc:∀ x ∈ l,c161 k x w1 v1 l1 l2 l3 to = r161 (f x)):c124f161 (k + 1) (encZ l) w1 v1 l1 l2 l3 to = r124f161 (fixI f 0 l):=by
 rw [n124f161,encZ_length]
 exact sob_loop (k:=k) w1 v1 l1 l2 l3 to f l hl hc k 0 (by omega) (by omega)
theorem sob_del {k:Nat} (w1 v1:Int) (l1 l2 l3:List PV) (to:Int) (f:Int->Bool) (s:List Int) (hl:s.length<=100000) (hc:∀ x ∈ s,c161 k x w1 v1 l1 l2 l3 to = r161 (f x)):∀ (n i j:Nat) (xs:List Int),s.length - j < n->j<=s.length->i<=j->xs.length = s.length->xs.take i = (s.take j).filter (fun x=>!f x)->xs.drop j = s.drop j ->
  L146f161_1 k n s.length w1 v1 l1 l2 l3 to (i:Int) (j:Int) (encZ xs) = r146f161 (encZ (s.filter fun x=>!f x))
 | 0,i,j,xs,h,hj,hi,hx,h1,h2=>by omega
 | n + 1,i,j,xs,h,hj,hi,hx,h1,h2=>by
  rw [sL146f161_1]
  by_cases hlt:j < s.length
  ·have hd:decide ((j:Int) < (s.length:Int)) = true:=by simpa using hlt
   have hg:(decide ((0:Int)<=(j:Int)) && true) = true:=by rw [decide_eq_true (by omega)];rfl
   have hg2:(decide ((0:Int)<=(i:Int)) && decide ((i:Int) < (s.length:Int))) = true:=by rw [decide_eq_true (by omega),decide_eq_true (by omega)];rfl
   have hnj:IntKind.i64.wrap ((j:Int) + 1) = ((j + 1:Nat):Int):=by rw [i64_id (by omega) (by omega)];omega
   have hni:IntKind.i64.wrap ((i:Int) + 1) = ((i + 1:Nat):Int):=by rw [i64_id (by omega) (by omega)];omega
   have hxj:xs[j]'(by omega) = s[j]:=by
    have e:=h2
    rw [drop_cons (by omega),drop_cons hlt] at e
    exact (List.cons.inj e).1
   have hat:∀ (m:Nat) (hm:m < xs.length),(encZ xs)[0 + (m:Int).toNat]? = some (.int .i64 xs[m]):=by
    intro m hm
    rw [Nat.zero_add,Int.toNat_natCast,encZ_get,List.getElem?_eq_getElem hm]
    rfl
   rw [hd,hg,hat j (by omega),hxj,hnj]
   simp only [cond_true,Option.bind_some,int_atInt]
   rw [hc _ (List.getElem_mem hlt)]
   simp only [R161_r]
   have hd2:xs.drop (j + 1) = s.drop (j + 1):=by rw [<- List.drop_drop,<- List.drop_drop,h2]
   have ht2:s.take (j + 1) = s.take j ++ [s[j]]:=List.take_succ_eq_append_getElem hlt
   cases hf:f s[j]
   ·simp only [Bool.not_false,cond_true]
    rw [hg2,hat i (by omega),hni]
    simp only [cond_true,Option.bind_some,Nat.zero_add,Int.toNat_natCast]
    rw [encZ_set]
    refine sob_del w1 v1 l1 l2 l3 to f s hl hc n (i + 1) (j + 1) (xs.set i s[j]) (by omega) (by omega) (by omega) (by simp;omega) ?_ ?_
    ·rw [List.take_succ_eq_append_getElem (by simp;omega),List.take_set_of_le (by omega),h1,ht2,List.filter_append]
     simp [hf]
    ·rw [List.drop_set_of_lt (by omega),hd2]
   ·simp only [Bool.not_true,cond_false]
    refine sob_del w1 v1 l1 l2 l3 to f s hl hc n i (j + 1) xs (by omega) (by omega) (by omega) hx ?_ hd2
    rw [h1,ht2,List.filter_append]
    simp [hf]
  ·have hd:decide ((j:Int) < (s.length:Int)) = false:=by simpa using hlt
   have hg:(decide ((0:Int)<=(i:Int)) && decide ((i:Int)<=(s.length:Int)) && decide ((s.length:Int)<=(s.length:Int))) = true:=by
    rw [decide_eq_true (by omega),decide_eq_true (by omega),decide_eq_true (by omega)];rfl
   have hg2:(decide ((0:Int)<=(i:Int)) && decide ((i:Int)<=(s.length:Int))) = true:=by rw [decide_eq_true (by omega),decide_eq_true (by omega)];rfl
   have hjs:s.take j = s:=List.take_of_length_le (by omega)
   rw [hd,hg,hg2]
   simp only [cond_true,cond_false,Nat.zero_add,Int.toNat_natCast]
   rw [List.append_assoc,List.take_left' (by simp;omega),encZ_take,h1,hjs]
theorem sob_ok {k:Nat} (hk:100010<=k) (w1 v1:Int) (l1 l2 l3:List PV) (to:Int) (f:Int->Bool) (s:List Int) (hl:s.length<=100000) (hc:∀ k',k<=k'->∀ x ∈ s,c161 k' x w1 v1 l1 l2 l3 to = r161 (f x)):c146f161 (k + 2) (encZ s) w1 v1 l1 l2 l3 to = r146f161 (encZ (s.filter fun x=>!f x)):=by
 have etk:(encZ s).take s.length = encZ s:=List.take_of_length_le (by simp)
 rw [n146f161,encZ_length,etk,sob_idx (k:=k) hk w1 v1 l1 l2 l3 to f s hl (hc k (Nat.le_refl k))]
 simp only [R124f161p_r]
 rcases fixI_spec f s 0 with ⟨h1,h2⟩ | ⟨j,hj,h1,h2,h3⟩
 ·rw [h1]
  have hall:s.filter (fun x=>!f x) = s:=List.filter_eq_self.2 fun x hx=>by
   obtain ⟨i,hi,rfl⟩:=List.mem_iff_getElem.1 hx
   simp [h2 _ (List.getElem_mem hi)]
  rw [hall]
  rfl
 ·rw [h1]
  have e1:((((0 + j:Nat):Int)) == (-1)) = false:=by rw [beq_eq_false_iff_ne];omega
  have e2:IntKind.i64.wrap (((0 + j:Nat):Int) + 1) = ((j + 1:Nat):Int):=by rw [i64_id (by omega) (by omega)];omega
  rw [e1,e2,Nat.zero_add]
  simp only [cond_false]
  have hpre:(s.take j).filter (fun x=>!f x) = s.take j:=List.filter_eq_self.2 fun x hx=>by
   obtain ⟨i,hi,rfl⟩:=List.mem_iff_getElem.1 hx
   rw [List.length_take] at hi
   rw [List.getElem_take]
   simp [h3 i (by omega)]
  refine sob_del (k:=k + 1) w1 v1 l1 l2 l3 to f s hl (hc (k + 1) (by omega)) (k + 1) j (j + 1) s (by omega) (by omega) (by omega) rfl ?_ rfl
  rw [List.take_succ_eq_append_getElem hj,List.filter_append,hpre]
  simp [h2]
theorem R146f161p_enc (l:List Int) (K0:List PV->R):R146f161p (r146f161 (encZ l)) K0 = K0 (encZ l):=by
 have h:([SV.c (.own 3 0 (encZ l))].all plainS && true) = true:=by simp [plainS,plainC,encZ_plain];rfl
 show (bif ([SV.c (.own 3 0 (encZ l))].all plainS && true) then K0 (encZ l) else none) = _
 rw [h]
 rfl
theorem stepsOn_ok {k:Nat} (hk:1000500<=k) {p:Prg} (hp:FitP p) (hs:smallP p = true) (l1:List PV) {v:List Int} (hv:OkV v) (hn:v.length = nS p) (c d:Int):c100 k p.wide p.vars l1 (encCms p.cmds) (encZ v) c d = r100 (encZ (onL p v c d)):=by
 obtain ⟨k,rfl⟩:∃ j,k = j + 3:=⟨k - 3,by omega⟩
 have hvl:=hv.len
 have hsl:=stV_len v c
 have hsi:=stV_inS hn c
 rw [n100,statesIn_ok (by omega) (by omega)]
 simp only [R101_r,encZ_length]
 rw [encZ_tk,sob_ok (k:=k) (by omega) p.wide p.vars l1 (encCms p.cmds) (encZ v) d (fun x=>!((nxL p x).any fun y=>dAt v y == d)) (stV v c) (by omega) (fun k' hk' x hx=>by
  obtain ⟨k',rfl⟩:∃ j,k' = j + 3:=⟨k' - 3,by omega⟩
  have hx':=hsi x hx
  have hnl:=nxL_len hp x
  rw [n161,nextI_ok (by omega) hp hs hx']
  simp only [R66_r]
  rw [soa_ok (k:=k') (by omega) (encZ v) d (fun y=>dAt v y == d) (nxL p x) (by omega) (fun y hy=>by
   obtain ⟨k',rfl⟩:∃ j,k' = j + 1:=⟨k' - 1,by omega⟩
   have hy':=nxL_in hp hs hx' y hy
   have hg:inG v.length y:=by rw [hn];exact inG_in.2 hy'
   rw [n162,lookV hg.1 hg.2]
   simp only [Option.bind_some,int_atInt])]
  simp only [R62f162p_r]),R146f161p_enc,encZ_length,encZ_tk]
 simp only [Bool.not_not]
 rfl
theorem StepsOnI_ok {k:Nat} (hk:1000700<=k) (p:Prg) (hp:FitP p) {v:List Int} (hv:OkV v) (c d:Int) (hc:clB p v c = true) (hd:clB p v d = true):c42 k p.wide p.vars (encT p.start) (encCms p.cmds) (encZ v) c d = r42 (encZ (onL p v c d)) true:=by
 obtain ⟨k,rfl⟩:∃ j,k = j + 1:=⟨k - 1,by omega⟩
 rw [n42,isClass_ok (by omega) p hp hv]
 simp only [R84_r]
 rw [show (gsB p v && (decide (0<=c) && decide (c < manyF v 0))) = clB p v c from rfl,hc,isClass_ok (by omega) p hp hv]
 simp only [R84_r,Bool.not_true,cond_false]
 rw [show (gsB p v && (decide (0<=d) && decide (d < manyF v 0))) = clB p v d from rfl,hd]
 have hg:gsB p v = true:=by simp only [clB,Bool.and_eq_true] at hc;exact hc.1
 obtain ⟨s1,s2,s3⟩:=gs_small hg
 simp only [Bool.not_true,cond_false]
 rw [stepsOn_ok (by omega) hp s1 _ hv s3]
 simp only [R100_r]
theorem tight_ok {bs:List Nat} (hc:CodeOK bs) {k:Nat} (hk:1001100<=k) {at':Int} (h0:0<=at') (h1:at'<=300000000) (s:W) :
  ∃ a2 s2 p v,c150 k (encB bs) at' (wi s) = r150 (encB bs) a2 (wi s2) p.wide p.vars (encT p.start) (encCms p.cmds) (encZ v) /\ at'<=a2 /\ a2<=at' + 70000 /\ FitP p /\ OkV v:=by
 obtain ⟨k,rfl⟩:∃ j,k = j + 1:=⟨k - 1,by omega⟩
 rw [n150]
 obtain ⟨a2,s2,p,h,h2,h3,h4⟩:=small_ok hc (k:=k) (by omega) (at':=at') h0 (by omega) s
 rw [h]
 simp only [R44_r,encCms_length]
 have ht:(encCms p.cmds).take p.cmds.length = encCms p.cmds:=List.take_of_length_le (by simp)
 rw [ht,goodProgramS_ok (by omega) p h4]
 simp only [R174p_r]
 have fin:∀ (q:Prg),FitP q->∀ (a3:Int) (s3:W),at'<=a3->a3<=at' + 11000->∃ a4 s4 q2 v,(R45 (c45 k q.wide q.vars (encT q.start) (encCms q.cmds) (encB bs) a3 (wi s3)) fun l5 v7 v8 l6=>r150 l5 v7 v8 q.wide q.vars (encT q.start) (encCms q.cmds) l6) = r150 (encB bs) a4 (wi s4) q2.wide q2.vars (encT q2.start) (encCms q2.cmds) (encZ v) /\ at'<=a4 /\ a4<=at' + 70000 /\ FitP q2 /\ OkV v:=by
  intro q hq a3 s3 b1 b2
  obtain ⟨a4,s4,v,h,h5,h6,h7⟩:=sight_ok hc (k:=k) (by omega) hq (at':=a3) (by omega) (by omega) s3
  rw [h]
  simp only [R45_r]
  exact ⟨a4,s4,q,v,rfl,by omega,by omega,hq,h7⟩
 cases hg:goodP p
 ·simp only [cond_false]
  exact fin p h4 a2 s2 h2 (by omega)
 ·simp only [cond_true]
  obtain ⟨a3,s3,q,h,h5,h6⟩:=one_ok hc (k:=k) (by omega) (at':=a2) (by omega) (by omega) s2 2
  rw [h]
  simp only [R48_r]
  cases q
  ·simp only [cond_false]
   exact fin p h4 a3 s3 (by omega) (by omega)
  ·simp only [cond_true]
   have hpos:0 < p.cmds.length:=by
    simp only [goodP,Bool.and_eq_true,decide_eq_true_eq] at hg
    omega
   have hd:decide ((0:Int) < (p.cmds.length:Int)) = true:=decide_eq_true (by omega)
   have hget:(encCms p.cmds)[0]? = some (encCm p.cmds[0]):=by rw [encCms_get,List.getElem?_eq_getElem hpos];rfl
   have e1:(PV.row 2 0 [PV.agg [.int .i64 20,.int .u64 1]]) = .row 2 0 (encT [(20,1#64)]):=rfl
   have e2:(PV.row 2 0 [PV.agg [.int .i64 0,.row 2 0 [PV.agg [.int .i64 2,.int .u64 0],PV.agg [.int .i64 1,.int .u64 1],PV.agg [.int .i64 3,.int .u64 0]]]]) = .row 2 0 (encChs [⟨0,[(2,0#64),(1,1#64),(3,0#64)]⟩]):=rfl
   have e3:([PV.agg [.int .i64 2,.int .u64 0],PV.agg [.int .i64 1,.int .u64 0],PV.agg [.int .i64 14,.int .u64 0]]:List PV) = encT [(2,0#64),(1,0#64),(14,0#64)]:=rfl
   rw [hd,hget,e1,e2,e3]
   simp only [cond_true,Option.bind_some]
   rw [put_wh]
   simp only [Option.bind_some]
   rw [encCms_set,encCms_get,List.getElem?_set_self hpos]
   simp only [Option.map_some,Option.bind_some]
   rw [put_ch]
   simp only [Option.bind_some]
   rw [encCms_set,List.set_set,List.take_of_length_le (by simp)]
   exact fin { p with start:=[(2,0#64),(1,0#64),(14,0#64)],cmds:=p.cmds.set 0 { p.cmds[0] with wh:=[(20,1#64)],ch:=[⟨0,[(2,0#64),(1,1#64),(3,0#64)]⟩] } } ⟨h4.w,h4.v,by simp,by simpa using h4.cm,fun c hc'=>by
    rcases List.mem_or_eq_of_mem_set hc' with h12 | h12
    ·exact h4.c c h12
    ·subst h12
     exact ⟨by simp,by simp,fun x hx=>by simp at hx;subst hx;simp⟩⟩ a3 s3 (by omega) (by omega)
def Inh (v:List Int) (c:Int):Prop:=∃ y,inG v.length y /\ dAt v y = c
theorem inh_clB {p:Prg} {v:List Int} (hg:gsB p v = true) {c:Int} (h:Inh v c):clB p v c = true:=by
 obtain ⟨s1,s2,s3⟩:=gs_small hg
 obtain ⟨y,h1,rfl⟩:=h
 have:=dAt_rng s2 h1.2
 simp only [clB,hg,Bool.true_and,Bool.and_eq_true,decide_eq_true_eq]
 exact this
theorem stpL_inh {p:Prg} (hp:FitP p) (hs:smallP p = true) {v:List Int} (hn:v.length = nS p) {c:Int} (h:Inh v c):stpL p v c ≠ [] /\ ∀ x ∈ stpL p v c,Inh v x:=by
 obtain ⟨y,h1,h2⟩:=h
 refine ⟨fun h0=>?_,fun x hx=>?_⟩
 ·cases hn2:nxL p y with
  | nil=>exact nxL_ne p y hn2
  | cons z zs =>
   have:dAt v z ∈ stpL p v c:=(stpL_mem p v c _).2 ⟨y,h1,h2,z,by rw [hn2];simp,rfl⟩
   rw [h0] at this
   cases this
 ·obtain ⟨y2,h3,h4,z,h5,h6⟩:=(stpL_mem p v c x).1 hx
  exact ⟨z,by rw [hn];exact inG_in.2 (nxL_in hp hs (inG_in.1 (by rw [<- hn];exact h3)) z h5),h6⟩
theorem cpathD_loop {bs:List Nat} (hc:CodeOK bs) {k:Nat} (hk:1000900<=k) (p:Prg) (hp:FitP p) {v:List Int} (hv:OkV v) (hg:gsB p v = true):∀ (m n:Nat) (o:List Int) (at':Int) (s:W),m < n->0<=at'->at' + 2 * m<=400000000->1<=o.length->o.length + m<=100->(∀ x ∈ o,Inh v x) ->
  ∃ a2 s2 l,L151_1 k n o.length (m:Int) (encB bs) at' (wi s) p.wide p.vars (encT p.start) (encCms p.cmds) (encZ v) (encZ o) = r151 (encB bs) a2 (wi s2) (encZ l) /\ at'<=a2 /\ a2<=at' + 2 * m + 10 /\ 1<=l.length /\ l.length<=100 /\ l.length = o.length + m
 | m,0,o,at',s,hm,h0,h1,ho,hl,hin=>by omega
 | 0,n + 1,o,at',s,hm,h0,h1,ho,hl,hin=>by
  have hd:decide (((0:Nat):Int) > 0) = false:=rfl
  rw [sL151_1,hd,encZ_tk]
  obtain ⟨a2,s2,q,h,h2,h3⟩:=one_ok hc (k:=k) (by omega) (at':=at') h0 (by omega) s 12
  simp only [cond_false]
  rw [h]
  simp only [R48_r]
  cases q
  ·exact ⟨a2,s2,o,rfl,by omega,by omega,ho,by omega,rfl⟩
  ·simp only [cond_true]
   obtain ⟨a3,s3,i,h,h4,h5,h6,h7,_⟩:=pick_ok hc (k:=k) (by omega) (at':=a2) (by omega) (by omega) s2 (o.length:Int)
   rw [h]
   simp only [R103_r]
   obtain ⟨a4,s4,x,h,h8,h9,h10,h11,_⟩:=pick_ok hc (k:=k) (by omega) (at':=a3) (by omega) (by omega) s3 6
   rw [h]
   simp only [R103_r]
   have h7':=h7 (by omega)
   have hil:i.toNat < o.length:=by omega
   rw [decide_eq_true h6,decide_eq_true h7',Nat.zero_add,encZ_get,List.getElem?_eq_getElem hil]
   simp only [Bool.and_self,cond_true,Option.map_some,Option.bind_some]
   rw [encZ_set,List.take_of_length_le (by simp)]
   exact ⟨a4,s4,o.set i.toNat x,rfl,by omega,by omega,by simp;omega,by simp;omega,by simp⟩
 | m + 1,n + 1,o,at',s,hm,h0,h1,ho,hl,hin=>by
  obtain ⟨s1,s2,s3⟩:=gs_small hg
  have hvl:=hv.len
  have hd:decide (((m + 1:Nat):Int) > 0) = true:=decide_eq_true (by omega)
  have hprev:IntKind.i64.wrap ((o.length:Int) - 1) = ((o.length - 1:Nat):Int):=by rw [i64_id (by omega) (by omega)];omega
  have hm1:IntKind.i64.wrap (((m + 1:Nat):Int) - 1) = (m:Int):=by rw [i64_id (by omega) (by omega)];omega
  have hlt:o.length - 1 < o.length:=by omega
  have hx:=hin _ (List.getElem_mem hlt)
  have hcl:=inh_clB hg hx
  obtain ⟨hne,hinh⟩:=stpL_inh hp s1 s3 hx
  have hsl:=stpL_len hp s1 s3 s2 o[o.length - 1]
  have hd2:(decide ((0:Int)<=((o.length - 1:Nat):Int)) && decide (((o.length - 1:Nat):Int) < (o.length:Int))) = true:=by rw [decide_eq_true (by omega),decide_eq_true (by omega)];rfl
  have hat:(encZ o)[0 + (((o.length - 1:Nat):Int)).toNat]? = some (.int .i64 o[o.length - 1]):=by rw [Nat.zero_add,Int.toNat_natCast,encZ_get,List.getElem?_eq_getElem hlt];rfl
  rw [sL151_1,hd,hprev,hd2,hat,hm1,encZ_tk]
  simp only [cond_true,Option.bind_some,int_atInt]
  rw [ClassStepsS_ok (by omega) p hp hv]
  simp only [R31_r]
  rw [hcl]
  simp only [cond_true,encZ_length]
  have hpos:0 < (stpL p v o[o.length - 1]).length:=List.length_pos_iff.2 hne
  obtain ⟨a2,s2',i,h,h2,h3,h4,h5,_⟩:=pick_ok hc (k:=k) (by omega) (at':=at') h0 (by omega) s ((stpL p v o[o.length - 1]).length:Int)
  have h5':=h5 (by omega)
  rw [h]
  simp only [R103_r]
  have ei:i = ((i.toNat:Nat):Int):=by omega
  have hil:i.toNat < (stpL p v o[o.length - 1]).length:=by omega
  rw [ei,encZ_lookup hil]
  simp only [Option.bind_some,int_atInt]
  rw [lim_ok (by omega) (by omega),encZ_snoc]
  simp only [cond_true]
  obtain ⟨a3,s3',l,h,h6,h7,h8,h9,h10⟩:=cpathD_loop hc hk p hp hv hg m n (o ++ [(stpL p v o[o.length - 1])[i.toNat]]) a2 s2' (by omega) (by omega) (by omega) (by simp) (by simp;omega) (fun x hx=>by
   rcases List.mem_append.1 hx with h | h
   ·exact hin x h
   ·simp only [List.mem_singleton] at h
    rw [h]
    exact hinh _ (List.getElem_mem hil))
  rw [List.length_append] at h h10
  exact ⟨a3,s3',l,h,by omega,by omega,h8,h9,by simp at h10;omega⟩
theorem classPath_ok {bs:List Nat} (hc:CodeOK bs) {k:Nat} (hk:1001000<=k) (p:Prg) (hp:FitP p) {v:List Int} (hv:OkV v) {at':Int} (h0:0<=at') (h1:at'<=300000000) (s:W) :
  ∃ a2 s2 l,c151 k p.wide p.vars (encT p.start) (encCms p.cmds) (encZ v) (encB bs) at' (wi s) = r151 (encB bs) a2 (wi s2) (encZ l) /\ at'<=a2 /\ a2<=at' + 100 /\ 1<=l.length /\ l.length<=60:=by
 obtain ⟨k,rfl⟩:∃ j,k = j + 1:=⟨k - 1,by omega⟩
 rw [n151,ClassStartsS_ok (by omega) p hp hv]
 simp only [R13_r,startsR]
 cases hgs:gsB p v
 ·exact ⟨at',s,[0],rfl,by omega,by omega,by simp,by simp⟩
 obtain ⟨s1,s2,s3⟩:=gs_small hgs
 have e:starts17 p v = clV v (whI p p.start):=rfl
 simp only [Bool.not_true,cond_false,cond_true]
 rw [e]
 cases hne:clV v (whI p p.start) with
 | nil=>exact ⟨at',s,[0],rfl,by omega,by omega,by simp,by simp⟩
 | cons y ys =>
  have hlen:(((encZ (y :: ys)).length:Int) == 0) = false:=beq_eq_false_iff_ne.2 (by simp;omega)
  have hwl:=clV_len s2 (wh_inG s3 p.start)
  rw [hne] at hwl
  have hvl:=hv.len
  rw [hlen]
  simp only [cond_false,encZ_length]
  obtain ⟨a2,s2',i,h,h2,h3,h4,h5,_⟩:=pick_ok hc (k:=k) (by omega) (at':=at') h0 (by omega) s ((y :: ys).length:Int)
  have h5':=h5 (by simp;omega)
  rw [h]
  simp only [R103_r]
  have ei:i = ((i.toNat:Nat):Int):=by omega
  have hil:i.toNat < (y :: ys).length:=by omega
  rw [ei,encZ_lookup hil]
  simp only [Option.bind_some,int_atInt]
  obtain ⟨a3,s3',m,h,h6,h7,h8,h9,_⟩:=pick_ok hc (k:=k) (by omega) (at':=a2) (by omega) (by omega) s2' 8
  have h9':=h9 (by omega)
  rw [h]
  simp only [R103_r]
  have em:m = ((m.toNat:Nat):Int):=by omega
  have hinh:Inh v ((y :: ys)[i.toNat]):=by
   have hm:(y :: ys)[i.toNat] ∈ clV v (whI p p.start):=by rw [hne];exact List.getElem_mem hil
   obtain ⟨z,h10,h11⟩:=(clV_mem v _ _).1 hm
   exact ⟨z,wh_inG s3 p.start z h10,h11⟩
  obtain ⟨a4,s4,l,h,h10,h11,h12,h13,h14⟩:=cpathD_loop hc (k:=k) (by omega) p hp hv hgs m.toNat k [(y :: ys)[i.toNat]] a3 s3' (by omega) (by omega) (by omega) (by simp) (by simp;omega) (by intro x hx;simp only [List.mem_singleton] at hx;rw [hx];exact hinh)
  rw [<- em] at h
  refine ⟨a4,s4,l,h,by omega,by omega,h12,?_⟩
  simp at h14
  omega
theorem drawAlong_ok {bs:List Nat} (hc:CodeOK bs) {k:Nat} (hk:1001200<=k) :
  ∃ p v path,c90 k (encB bs) = r90 p.wide p.vars (encT p.start) (encCms p.cmds) (encZ v) (encZ path) /\ FitP p /\ OkV v /\ 1<=path.length /\ path.length<=60:=by
 obtain ⟨k,rfl⟩:∃ j,k = j + 1:=⟨k - 1,by omega⟩
 rw [n90]
 obtain ⟨a2,s2,p,v,h,h2,h3,h4,h5⟩:=tight_ok hc (k:=k) (by omega) (at':=0) (by omega) (by omega) 0#64
 have h':c150 k (encB bs) 0 0 = _:=h
 rw [h']
 simp only [R150_r]
 obtain ⟨a3,s3,l,h,h6,h7,h8,h9⟩:=classPath_ok hc (k:=k) (by omega) p h4 h5 (at':=a2) (by omega) (by omega) s2
 rw [h]
 simp only [R151_r]
 exact ⟨p,v,l,rfl,h4,h5,h8,h9⟩
end Go.Proofs.YthoecdnmokcfbaaGreat
/- FnReal: a path of classes has a path of states exactly if it fails nowhere. -/
set_option linter.unusedVariables false
set_option linter.unusedSimpArgs false
set_option maxRecDepth 8000
namespace Go.Proofs.YthoecdnmokcfbaaGreat
open Go.Dp
theorem rpR_len (p:Prg) (v path:List Int):(rpR p v path).length<=path.length:=by
 unfold rpR
 cases rpOK p v path
 ·simp
 ·simp only [cond_true,realL_len,alongL_len]
  exact Nat.le_refl _
theorem alongR_fit {p:Prg} (hp:FitP p) (v path:List Int) (hl:path.length<=1000):(alongR p v path).length<=1000 /\ ∀ z ∈ alongR p v path,z.length<=1000000:=by
 unfold alongR
 cases hc:cpathB p v path 200
 ·simp
 ·obtain ⟨hg,_,_,_⟩:=cpath_facts hc
  obtain ⟨s1,s2,s3⟩:=gs_small hg
  simp only [cond_true,alongL_len]
  refine ⟨hl,fun z hz=>?_⟩
  have:=(alongL_SL hp s1 v path z hz).len s1
  omega
theorem real_loop {k:Nat} (hk:100010<=k) (on1 d:List Int) (hol:on1.length<=1000) (hd:∀ x ∈ d,x ∉ on1) (hdl:d.length<=1000):∀ (n i:Nat),d.length - i < n->i<=d.length ->
  L5_1 k n (encZ on1) (encZ d) (d.length:Int) (i:Int) = r5 true
 | 0,i,h,hi=>by omega
 | n + 1,i,h,hi=>by
  rw [sL5_1]
  by_cases hlt:i < d.length
  ·have he:decide ((i:Int) < (d.length:Int)) = true:=by simpa using hlt
   have hnext:IntKind.i64.wrap ((i:Int) + 1) = ((i + 1:Nat):Int):=by rw [i64_id (by omega) (by omega)];omega
   have hc:on1.contains d[i] = false:=by
    cases h:on1.contains d[i]
    ·rfl
    ·exact absurd (List.contains_iff_mem.1 h) (hd _ (List.getElem_mem hlt))
   rw [he,encZ_lookup hlt,hnext]
   simp only [cond_true,Option.bind_some,int_atInt]
   rw [hasL_ok (by omega) _ (by omega),hc]
   simp only [R19_r,cond_false]
   exact real_loop hk on1 d hol hd hdl n (i + 1) (by omega) (by omega)
  ·have he:decide ((i:Int) < (d.length:Int)) = false:=by simpa using hlt
   rw [he]
   rfl
theorem cls_at {p:Prg} {v path:List Int} (hg:gsB p v = true) (h:path.all (inN (manyF v 0)) = true) {i:Nat} (hi:i < path.length):clB p v path[i] = true:=by
 have:=List.all_eq_true.1 h _ (List.getElem_mem hi)
 simp only [inN,Bool.and_eq_true,decide_eq_true_eq] at this
 simp only [clB,hg,Bool.true_and,Bool.and_eq_true,decide_eq_true_eq]
 exact this
theorem fnReal_true {k:Nat} (hk:1048700<=k) (code more:List Nat) (hc:∀ b ∈ code,b < 256) (hm:∀ b ∈ more,b < 256):c5 k (encB code) (encB more) = r5 true:=by
 obtain ⟨k,rfl⟩:∃ j,k = j + 2:=⟨k - 2,by omega⟩
 rw [n5,big_ok (by omega)]
 simp only [R6_r]
 cases hbig:(decide (code.length > 1048576) || decide (more.length + code.length > 1048576))
 rotate_left
 ·rfl
 simp only [cond_false]
 rw [Bool.or_eq_false_iff] at hbig
 have hl:code.length<=1048576 /\ more.length<=1048576:=by
  have h1:=hbig.1
  have h2:=hbig.2
  simp at h1 h2
  omega
 have hcc:CodeOK code:=⟨hl.1,hc⟩
 obtain ⟨p,v,path,h,hp,hv,hpl1,hpl⟩:=drawAlong_ok hcc (k:=k) (by omega)
 have hrl:=rpR_len p v path
 obtain ⟨g1,g2⟩:=alongR_fit hp v path (by omega)
 rw [n33,h]
 simp only [R90_r,R33_r]
 rw [RealPathI_ok (by omega) p hp hv path (by omega),RealPathS_ok (by omega) p hp hv path (by omega)]
 simp only [R34_r,R35_r]
 rw [FailsAtI_ok (by omega) p hp hv path (by omega),FailsAtS_ok (by omega) p hp hv path (by omega)]
 simp only [R36_r,R37_r]
 rw [StatesAlongI_ok (by omega) p hp hv path (by omega),StatesAlongS_ok (by omega) p hp hv path (by omega)]
 simp only [R38_r,R39_r,beq_self_eq_true,bne_self_eq_false,Bool.not_true,cond_false]
 rw [sameInts_ok (by omega) _ _ (by omega),sameLists_ok (by omega) _ g1 g2]
 simp only [R16_r,R17_r,decide_true,Bool.not_true,cond_false]
 cases hcp:cpathB p v path 200
 ·have e1:rpOK p v path = false:=by unfold rpOK;rw [hcp];rfl
  have e2:deadB p v path = false:=by unfold deadB;rw [hcp];rfl
  have e3:deadR p v path = []:=by unfold deadR;rw [e2];rfl
  rw [e1]
  simp only [cond_false]
  rw [DeadEndsI_ok (by omega) p hp hv path (by omega),DeadEndsS_ok (by omega) p hp hv path (by omega)]
  simp only [R40_r,R41_r,beq_self_eq_true,Bool.not_true,cond_false]
  rw [e3,e2,sameInts_ok (by omega) _ _ (by simp)]
  rfl
 obtain ⟨hg,q1,q2,q3⟩:=cpath_facts hcp
 obtain ⟨s1,s2,s3⟩:=gs_small hg
 have hne:path ≠ []:=by rintro rfl;simp at hpl1
 have hvl:=hv.len
 have hle:=nS_le s1
 cases hf:decide (0<=failL (alongL p v path))
 ·have e1:rpOK p v path = true:=by unfold rpOK;rw [hcp,hf];rfl
  have e2:failOK p v path = false:=by unfold failOK;rw [hcp,hf];rfl
  have e3:rpR p v path = realL p (alongL p v path):=by unfold rpR;rw [e1];rfl
  obtain ⟨x,l,f1,f2,f3,f4,f5,f6⟩:=realL_ok hp s1 v path hne (of_decide_eq_false hf)
  have hrl2:=realL_len p (alongL p v path)
  rw [alongL_len] at hrl2
  rw [e1,e2,e3]
  rw [f1] at hrl2 ⊢
  have hno:∀ y ∈ x :: l,noOK p y = true:=fun y hy=>by
   have:=f4 y hy
   simp only [noOK,s1,Bool.true_and,Bool.and_eq_true,decide_eq_true_eq]
   exact this
  have hpo:pathOK p (x :: l) = true:=by
   simp only [pathOK,Bool.and_eq_true,decide_eq_true_eq,List.all_eq_true]
   exact ⟨by simp,by omega,hno⟩
  have hpb:pathB p (x :: l) = true:=by simp only [pathB,f2,f3,Bool.and_self]
  have hpc:pcOK p v (x :: l) = true:=by
   simp only [pcOK,hg,Bool.true_and,Bool.and_eq_true,decide_eq_true_eq,List.all_eq_true]
   exact ⟨⟨by simp,by omega⟩,fun y hy=>by have:=f4 y hy;simp only [inN,Bool.and_eq_true,decide_eq_true_eq];exact this⟩
  have hpr:pcR p v (x :: l) = path:=by unfold pcR;rw [hpc];exact f5
  simp only [cond_true,cond_false,show (true == false) = false from rfl]
  rw [isPathI_ok (by omega) p hp (x :: l) (by omega),pathCI_ok (by omega) p hp hv]
  simp only [R18_r,R8_r]
  rw [hpo,hpb,hpc,hpr,sameInts_ok (by omega) _ _ (by omega)]
  simp only [R16_r,decide_true,Bool.and_self,cond_true]
 ·have e1:rpOK p v path = false:=by unfold rpOK;rw [hcp,hf];rfl
  have e2:failOK p v path = true:=by unfold failOK;rw [hcp,hf];rfl
  have e3:failR p v path = failL (alongL p v path):=by unfold failR;rw [e2];rfl
  have hdl:=deadR_len hp v path
  rw [e1,e2,e3]
  simp only [cond_true,cond_false,show (false == true) = false from rfl]
  rw [DeadEndsI_ok (by omega) p hp hv path (by omega),DeadEndsS_ok (by omega) p hp hv path (by omega)]
  simp only [R40_r,R41_r,beq_self_eq_true,Bool.not_true,cond_false]
  rw [sameInts_ok (by omega) _ _ (by omega)]
  simp only [R16_r,decide_true,Bool.not_true,cond_false]
  have e4:deadB p v path = deOK p v path:=by unfold deadB;rw [hcp];rfl
  rw [e4]
  cases hd:deOK p v path
  ·rfl
  have e5:deadR p v path = deadL p v path:=by unfold deadR;rw [e4,hd];rfl
  obtain ⟨j,h1,h2,h3,h4,h5⟩:=dead_at hd
  obtain ⟨d1,d2⟩:=dead_facts hp s1 s3 h1 h3 h4
  have e6:IntKind.i64.wrap (((j + 1:Nat):Int) - 1) = (j:Int):=by rw [i64_id (by omega) (by omega)];omega
  have hdl2:=(deadL_SL hp s1 v path).len s1
  have hsv:=stV_len v path[j]
  have hon:(onL p v path[j] path[j + 1]).length<=v.length:=Nat.le_trans (List.length_filter_le _ _) hsv
  have hcj:=cls_at hg q3 (show j < path.length by omega)
  have w1:((onL p v path[j] path[j + 1]).all fun x=>(stV v path[j]).contains x) = true:=by
   rw [List.all_eq_true]
   intro x hx
   exact List.contains_iff_mem.2 (List.mem_filter.1 hx).1
  have w2:((deadL p v path).all fun x=>(stV v path[j]).contains x) = true:=by
   rw [List.all_eq_true]
   intro x hx
   exact List.contains_iff_mem.2 (d1 x hx)
  rw [e5,h2,e6,encZ_lookup (show j < path.length by omega),encZ_lookup h1]
  simp only [cond_true,Option.bind_some,int_atInt]
  rw [StepsOnI_ok (by omega) p hp hv _ _ hcj (cls_at hg q3 h1)]
  simp only [R42_r]
  rw [StatesInI_ok (by omega) p hp hv,show (gsB p v && (decide (0<=path[j]) && decide (path[j] < manyF v 0))) = clB p v path[j] from rfl,hcj]
  simp only [R43_r,cond_true,Bool.not_true,cond_false]
  rw [withinL_ok (by omega) _ _ (by omega) (by omega),w1]
  simp only [R32_r,Bool.not_true,cond_false]
  rw [withinL_ok (by omega) _ _ (by omega) (by omega),w2]
  simp only [R32_r,Bool.not_true,cond_false,encZ_length]
  have hpos:0 < (deadL p v path).length:=List.length_pos_iff.2 h5
  rw [beq_eq_false_iff_ne.2 (show ((deadL p v path).length:Int) ≠ 0 by omega)]
  exact real_loop (k:=k + 1) (by omega) _ _ (by omega) d2 (by omega) (k + 1) 0 (by omega) (by omega)
theorem lawFnReal (code more:List Int) (hc:∀ n ∈ code,(Lit.int .u8 n).wf = true) (hm:∀ n ∈ more,(Lit.int .u8 n).wf = true):Contract Tryz.prog 5 (([.row 0 0 (ints .u8 code),.row 0 0 (ints .u8 more)]:List PV).map .p) [] ([.c (.p (.bool true))],[]):=by
 obtain ⟨e1,h1⟩:=ints_encB code hc
 obtain ⟨e2,h2⟩:=ints_encB more hm
 rw [e1,e2]
 exact evF_sound envOK pOK (T:=T) hT 1048700 (fnReal_true (k:=1048700) (Nat.le_refl _) _ _ h1 h2)
end Go.Proofs.YthoecdnmokcfbaaGreat
/- The law FnReal of the program: for all arguments it returns true,and its arguments read as they did. -/
namespace Go.Proofs.YthoecdnmokcfbaaGreat.fnReal
open Go.ChangeShapes Go.WideShapes Go.ChangeAt Go.RowKit Go.Dp
open Go.ChangeMaps (open_string shut_string)
set_option linter.unusedVariables false
theorem own:ownKnob Tryz.prog.godebug = none:=by kernel_rfl
theorem laidOut:laidOutB Tryz.prog = true:=by kernel_rfl
theorem spot_none {P:Program} {w:World} {r:Reach} {base:Nat} {t e:TypeId} {x:Addr} {len cap:Nat} (ht:P.underlying t = some (.slice e)) (h:Value.okWide P w r base t (.slice (some x) len cap)):x.spot = none:=by
 simp only [Value.okWide,ht,Cell.okWide,Cell.ok] at h
 exact h.2.2.2.1
set_option maxRecDepth 100000 in
theorem lifted (os:Os) (started:os.Started) (H:Type) (enc:TypeId × Value->H) :
   ReturnsInHanded {} Tryz.checked os 5 .any (Rows.fnRealSpec.pre6 enc Tryz.prog Tryz.f5 Rows.fnRealRow.domain false) (Rows.fnRealSpec.post enc Tryz.prog Tryz.f5 false true false false):=by
 refine returnsInHanded_of_change_sized (C:=Tryz.checked) own started (by kernel_rfl) Tryz.func5
   (ChangeSpec.witness6 (enc:=enc) (C:=Tryz.checked) false ⟨#[],#[.slice none 0 0,.slice none 0 0],[]⟩ 8 (by kernel_rfl) (by kernel_rfl) (by kernel_rfl) (by kernel_rfl)) ?_
 intro W base args ds gs before hval0 hW hcnd hsz0 _
 have hval:∀ (j:Nat) t v,Tryz.f5.params[j]? = some t->args[j]? = some v->Value.okWide Tryz.prog W .any base t v:=hval0
 have hW':=hW
 obtain ⟨p,q,hA0,hV,rfl,hfz,hnd⟩:=hW
 have hA:DataW.TrodAll enc Tryz.prog W 0 (fun _=>true) true Tryz.f5.params.toList args.toList ds p:=hA0
 rw [Tryz.params5] at hA hval
 obtain ⟨v0,vs0,d0,ds0,p0,q0,hargs,rfl,rfl,h0,r0⟩:=trodAll_cons hA
 obtain ⟨v1,vs1,d1,ds1,p1,q1,rfl,rfl,rfl,h1,r1⟩:=trodAll_cons r0
 obtain ⟨rfl,rfl,rfl⟩:=trodAll_nil r1
 obtain rfl:args = #[v0,v1]:=by cases args;simp_all
 obtain ⟨rfl,rfl⟩:=trodVars_none hV
 have o0:=hval 0 22 v0 rfl rfl
 obtain ⟨a0,len0,cap0,rfl⟩:=okWide_slice Tryz.underlying22 o0
 have k0:=h0
 have lt0:∀ x ∈ p0,x.block < W.heap.size:=by obtain ⟨m,hm⟩:=k0;exact DataW.trod_lt m _ _ _ hm
 obtain ⟨z0,w0⟩:∃ zs,IsRow .u8 W a0 len0 cap0 zs:=by
   obtain ⟨fuel,hf⟩:=h0
   rcases open_ints Tryz.underlying22 Tryz.underlying5 (by kernel_rfl) hf with ⟨hcs,_⟩ | ⟨x,l,c,zs,hcs,_,hl,hm,hz,_,hcell,hwz⟩
   · simp [Value.cells] at hcs
     obtain ⟨rfl,rfl,rfl⟩:=hcs
     exact ⟨[],.inl ⟨rfl,rfl,rfl,rfl⟩⟩
   · simp [Value.cells] at hcs
     obtain ⟨rfl,rfl,rfl⟩:=hcs
     exact ⟨zs,.inr ⟨_,rfl,spot_none Tryz.underlying22 o0,hl,hm,by simpa using hz,hcell,hwz⟩⟩
 have o1:=hval 1 22 v1 rfl rfl
 obtain ⟨a1,len1,cap1,rfl⟩:=okWide_slice Tryz.underlying22 o1
 have k1:=h1
 have lt1:∀ x ∈ p1,x.block < W.heap.size:=by obtain ⟨m,hm⟩:=k1;exact DataW.trod_lt m _ _ _ hm
 obtain ⟨z1,w1⟩:∃ zs,IsRow .u8 W a1 len1 cap1 zs:=by
   obtain ⟨fuel,hf⟩:=h1
   rcases open_ints Tryz.underlying22 Tryz.underlying5 (by kernel_rfl) hf with ⟨hcs,_⟩ | ⟨x,l,c,zs,hcs,_,hl,hm,hz,_,hcell,hwz⟩
   · simp [Value.cells] at hcs
     obtain ⟨rfl,rfl,rfl⟩:=hcs
     exact ⟨[],.inl ⟨rfl,rfl,rfl,rfl⟩⟩
   · simp [Value.cells] at hcs
     obtain ⟨rfl,rfl,rfl⟩:=hcs
     exact ⟨zs,.inr ⟨_,rfl,spot_none Tryz.underlying22 o1,hl,hm,by simpa using hz,hcell,hwz⟩⟩
 clear hA0 hval0 hsz0
 refine (law_walk (P:=Tryz.prog) (f:=5) (vs:=[.row 0 0 (ints .u8 (z0.take len0)),.row 0 0 (ints .u8 (z1.take len1))]) (ys:=[.slice a0 len0 cap0,.slice a1 len1 cap1]) rfl ?_ (lawFnReal (z0.take len0) (z1.take len1) (fun n hn=>w0.wf n (List.mem_of_mem_take hn)) (fun n hn=>w1.wf n (List.mem_of_mem_take hn)))).mono fun e W' ⟨he,bel⟩=>?_
 · intro i a y ha hy
   cases i with
   | zero=>simp at ha hy;subst ha;subst hy;exact w0.rp
   | succ i =>
     cases i with
     | zero=>simp at ha hy;subst ha;subst hy;exact w1.rp
     | succ i =>
       simp at ha
 subst he
 exact ⟨_,rfl,_,_,_,[],_,[],hW',trodAll_mk1 (shut_bool Tryz.underlying4 _),(trodAll_cons_mk (Below.trod laidOut (by kernel_rfl) (of_decide_eq_true (by kernel_rfl)) k0 bel lt0) (trodAll_cons_mk (Below.trod laidOut (by kernel_rfl) (of_decide_eq_true (by kernel_rfl)) k1 bel lt1) trodAll_mk0)),rfl,bel.frame _,fun h=>by cases h⟩
theorem named:Tryz.pinned.checked.prog.funcNamed Rows.fnRealRow.func = some 5:=by kernel_rfl
theorem closed:joinedFacts Tryz.pinned.checked.prog 5 Tryz.f5 Rows.fnRealSpec Rows.fnRealRow = true:=by kernel_rfl
theorem inst:Tryz.f5.isInstance Tryz.pinned.checked.prog Rows.fnRealRow.origin Rows.fnRealRow.targs:=of_decide_eq_true (by kernel_rfl)
theorem wrap:Tryz.f5.isWrapper Tryz.pinned.checked.prog Rows.fnRealRow.wrapper Rows.fnRealRow.mainSum:=by unfold Func.isWrapper;first | (rw [if_pos (by decide +kernel)];kernel_rfl) | (rw [if_neg (by decide +kernel)];exact ⟨rfl,rfl⟩)
theorem over:Rows.fnRealRow.holds Tryz.pinned (OpenSpec.ofChange Rows.fnRealSpec) :=
 OpenClaim.holds_of_wide 5 Tryz.f5 rfl rfl rfl rfl rfl rfl rfl ⟨rfl,rfl,rfl,rfl,rfl⟩ rfl rfl rfl rfl rfl named Tryz.func5 closed inst wrap
  (fun os started H enc _=>lifted os started H enc)
theorem proved:Rows.FnRealSaid:=over
end Go.Proofs.YthoecdnmokcfbaaGreat.fnReal
namespace Go.Proofs.YthoecdnmokcfbaaGreat
theorem fnReal_holds:Rows.FnRealSaid:=fnReal.proved
#print axioms fnReal_holds
end Go.Proofs.YthoecdnmokcfbaaGreat
