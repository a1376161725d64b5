/- Normal forms: printed by nf.py. -/
import Derived.Test.YtocmjgfbcpgaoaaCs
set_option linter.unusedVariables false
set_option maxRecDepth 100000
namespace Go.Proofs.Ytocmjgfbcpgaoaa
open Go.Dp
/-! 3 : laws.FnFolded -/
theorem n3 (k : Nat) (code more : List PV) : c3 (k + 1) code more =
 R4 (c4 k code more) fun b1 =>
 bif b1 then
  r3 true
 else
  R5 (c5 k code) fun v1 l1 l2 =>
  R6 (c6 k v1 l1 l2) fun v2 b2 =>
  R7 (c7 k v1 l1 l2) fun v3 b3 =>
  R8 (c8 k v1 (l2.length : Int) l1) fun l3 b4 =>
  R9 (c9 k v1 (l2.length : Int) l1) fun l4 b5 =>
  bif (!(b2 == b3)) then
   r3 false
  else
   bif (v2 != v3) then
    r3 false
   else
    bif (!(b4 == b5)) then
     r3 false
    else
     R10 (c10 k l3 l4) fun b6 =>
     bif !b6 then
      r3 false
     else
      bif b2 then
       R6 (c6 k v1 l3 l2) fun v4 b7 =>
       R8 (c8 k v1 (l2.length : Int) l3) fun l5 b8 =>
       R11 (c11 k v1 (l2.length : Int) l1) fun l6 b9 =>
       R11 (c11 k v1 (l2.length : Int) l3) fun l7 b10 =>
       R12 (c12 k v1 (l2.length : Int) l1) fun v5 b11 =>
       R12 (c12 k v1 (l2.length : Int) l3) fun v6 b12 =>
       bif !b4 then
        r3 false
       else
        bif !b7 then
         r3 false
        else
         bif !b8 then
          r3 false
         else
          bif !b9 then
           r3 false
          else
           bif !b10 then
            r3 false
           else
            bif !b11 then
            r3 false
            else
            bif !b12 then
            r3 false
            else
            bif (v4 != v2) then
            r3 false
            else
            R10 (c10 k l5 l3) fun b13 =>
            bif !b13 then
            r3 false
            else
            R13 (c13 k l6 l7) fun b14 =>
            bif !b14 then
            r3 false
            else
            bif (v5 != v6) then
            r3 false
            else
            R14 (c14 k more) fun v7 v8 l8 =>
            R11 (c11 k v7 v8 l8) fun l9 b15 =>
            R15 (c15 k v7 v8 l8) fun l10 b16 =>
            bif (b15 == b16) then
            R13 (c13 k l9 l10) fun b17 =>
            r3 b17
            else r3 false
      else
       R14 (c14 k more) fun v9 v10 l11 =>
       R11 (c11 k v9 v10 l11) fun l12 b18 =>
       R15 (c15 k v9 v10 l11) fun l13 b19 =>
       bif (b18 == b19) then
        R13 (c13 k l12 l13) fun b20 =>
        r3 b20
       else r3 false := by kernel_rfl
/-! 4 : laws.big -/
theorem n4 (k : Nat) (code more : List PV) : c4 (k + 1) code more =
 bif decide ((code.length : Int) > 1048576) then
  r4 true
 else r4 (decide ((more.length : Int) > IntKind.i64.wrap (1048576 - (code.length : Int)))) := by kernel_rfl
/-! 5 : spec.DrawValueOf -/
theorem n5 (k : Nat) (code : List PV) : c5 (k + 1) code =
 R16 (c16 k code 0 0) fun l1 v1 v2 v3 v4 l2 =>
 R17 (c17 k v3 v4 l1 v1 v2) fun l3 v5 v6 l4 =>
 r5 v3 l2 (l4.take l4.length) := by kernel_rfl
/-! 6 : impl.ValueOf -/
theorem n6 (k : Nat) (wide : Int) (t state : List PV) : c6 (k + 1) wide t state =
 R18 (c18 k wide (state.length : Int) state) fun b1 =>
 bif !b1 then
  r6 0 false
 else
  R19 (c19 k wide (state.length : Int) t) fun b2 =>
  bif !b2 then
   r6 0 false
  else
   R20 (c20 k wide t state) fun v1 =>
   r6 v1 true := by kernel_rfl
/-! 7 : spec.ValueOf -/
theorem n7 (k : Nat) (wide : Int) (t state : List PV) : c7 (k + 1) wide t state =
 R21 (c21 k wide (state.length : Int) t) fun b1 =>
 bif !b1 then
  r7 0 false
 else
  R22 (c22 k wide state) fun b2 =>
  bif !b2 then
   r7 0 false
  else
   R23 (c23 k wide t (IntKind.i64.wrap ((t.length : Int) - 1)) state) fun v1 =>
   r7 v1 true := by kernel_rfl
/-! 8 : impl.FoldTerm -/
theorem n8 (k : Nat) (wide vars : Int) (t : List PV) : c8 (k + 1) wide vars t =
 R19 (c19 k wide vars t) fun b1 =>
 bif !b1 then
  r8 [] false
 else
  R24 (c24 k wide t) fun l1 =>
  r8 (l1.take l1.length) true := by kernel_rfl
/-! 9 : spec.FoldTerm -/
theorem n9 (k : Nat) (wide vars : Int) (t : List PV) : c9 (k + 1) wide vars t =
 R21 (c21 k wide vars t) fun b1 =>
 bif !b1 then
  r9 [] false
 else
  R25 (c25 k wide t (IntKind.i64.wrap ((t.length : Int) - 1))) fun l1 =>
  r9 (l1.take l1.length) true := by kernel_rfl
/-! 10 : laws.sameNodes -/
theorem n10 (k : Nat) (a b : List PV) : c10 (k + 1) a b =
 bif ((a.length : Int) != (b.length : Int)) then
  r10 false
 else L10_1 k k a b (a.length : Int) 0 := by kernel_rfl
theorem sL10_1 (k n : Nat) (a b : List PV) (t12 t13 : Int) : L10_1 k (n + 1) a b t12 t13 =
 bif decide (t13 < t12) then
  (lookP a t13).bind fun p1 =>
  bif p1.shp 2 then
   (p1.atInt .i64 0).bind fun n1 =>
   (p1.atInt .u64 1).bind fun n2 =>
   (lookP b t13).bind fun p2 =>
   bif p2.shp 2 then
    (p2.atInt .i64 0).bind fun n3 =>
    (p2.atInt .u64 1).bind fun n4 =>
    bif (!((n1 == n3) && ((n2 == n4) && true))) then
     r10 false
    else L10_1 k n a b t12 (IntKind.i64.wrap (t13 + 1))
   else none
  else none
 else r10 true := by kernel_rfl
/-! 11 : impl.VarsIn -/
theorem n11 (k : Nat) (wide vars : Int) (t : List PV) : c11 (k + 1) wide vars t =
 R19 (c19 k wide vars t) fun b1 =>
 bif !b1 then
  r11 [] false
 else
  R26 (c26 k t) fun l1 =>
  r11 (l1.take l1.length) true := by kernel_rfl
/-! 12 : impl.KindOf -/
theorem n12 (k : Nat) (wide vars : Int) (t : List PV) : c12 (k + 1) wide vars t =
 R19 (c19 k wide vars t) fun b1 =>
 bif !b1 then
  r12 0 false
 else
  R27 (c27 k t) fun v1 =>
  r12 v1 true := by kernel_rfl
/-! 13 : laws.sameInts -/
theorem n13 (k : Nat) (a b : List PV) : c13 (k + 1) a b =
 bif ((a.length : Int) != (b.length : Int)) then
  r13 false
 else L13_1 k k a b (a.length : Int) 0 := by kernel_rfl
theorem sL13_1 (k n : Nat) (a b : List PV) (t12 t13 : Int) : L13_1 k (n + 1) a b t12 t13 =
 bif decide (t13 < t12) then
  (lookP a t13).bind fun p1 =>
  (p1.atInt .i64 0).bind fun n1 =>
  (lookP b t13).bind fun p2 =>
  (p2.atInt .i64 0).bind fun n2 =>
  bif (n1 != n2) then
   r13 false
  else L13_1 k n a b t12 (IntKind.i64.wrap (t13 + 1))
 else r13 true := by kernel_rfl
/-! 14 : spec.DrawVarsIn -/
theorem n14 (k : Nat) (code : List PV) : c14 (k + 1) code =
 R28 (c28 k code) fun v1 v2 l1 =>
 r14 v1 v2 l1 := by kernel_rfl
/-! 15 : spec.VarsIn -/
theorem n15 (k : Nat) (wide vars : Int) (t : List PV) : c15 (k + 1) wide vars t =
 R21 (c21 k wide vars t) fun b1 =>
 bif !b1 then
  r15 [] false
 else
  R29 (c29 k t) fun l1 =>
  r15 l1 true := by kernel_rfl
/-! 16 : spec.l1Cur).term -/
theorem n16 (k : Nat) (l : List PV) (n1 n11 : Int) : c16 (k + 1) l n1 n11 =
 R30 (c30 k [PV.int .i64 1, PV.int .i64 2, PV.int .i64 3, PV.int .i64 4, PV.int .i64 8, PV.int .i64 64] l n1 n11) fun l1 v1 v2 v3 =>
 R31 (c31 k 3 l1 v1 v2) fun l2 v4 v5 v6 =>
 R32 (c32 k v3 (IntKind.i64.wrap (1 + v6)) 2 l2 v4 v5) fun l3 v7 v8 l4 =>
 R33 (c33 k 3 l3 v7 v8) fun l5 v9 v10 b1 =>
 bif b1 then
  R34 (c34 k v3 (IntKind.i64.wrap (1 + v6)) 3 l5 v9 v10) fun l6 v11 v12 l7 =>
  R31 (c31 k 40 l6 v11 v12) fun l8 v13 v14 v15 =>
  bif (v15 == 0) then
   bif decide ((0 : Int) < (l7.length : Int)) then
    (l7[0]?).bind fun p1 =>
    (putPart p1 2 1 (PV.int .u64 9223372036854775808) 0).bind fun p2 =>
    r16 l8 v13 v14 v3 (IntKind.i64.wrap (1 + v6)) ((l7.set 0 p2).take l7.length)
   else none
  else
   bif (v15 == 1) then
    bif decide ((0 : Int) ≤ IntKind.i64.wrap ((l7.length : Int) - 1)) && decide (IntKind.i64.wrap ((l7.length : Int) - 1) ≤ (l7.length : Int)) then
     r16 l8 v13 v14 v3 (IntKind.i64.wrap (1 + v6)) (l7.take ((IntKind.i64.wrap ((l7.length : Int) - 1)).toNat))
    else none
   else
    bif (v15 == 2) then
     R30 (c30 k [PV.int .i64 0, PV.int .i64 4, PV.int .i64 5] l8 v13 v14) fun l9 v16 v17 v18 =>
     r16 l9 v16 v17 v3 v18 (l7.take l7.length)
    else
     bif (v15 == 3) then
      R31 (c31 k 23 l8 v13 v14) fun l10 v19 v20 v21 =>
      bif decide ((0 : Int) ≤ IntKind.i64.wrap ((l7.length : Int) - 1)) && decide (IntKind.i64.wrap ((l7.length : Int) - 1) < (l7.length : Int)) then
       (l7[0 + ((IntKind.i64.wrap ((l7.length : Int) - 1)).toNat)]?).bind fun p3 =>
       (putPart p3 2 0 (PV.int .i64 v21) 0).bind fun p4 =>
       r16 l10 v19 v20 v3 (IntKind.i64.wrap (1 + v6)) ((l7.set (0 + ((IntKind.i64.wrap ((l7.length : Int) - 1)).toNat)) p4).take l7.length)
      else none
     else r16 l8 v13 v14 v3 (IntKind.i64.wrap (1 + v6)) (l7.take l7.length)
 else
  R31 (c31 k 40 l5 v9 v10) fun l11 v22 v23 v24 =>
  bif (v24 == 0) then
   bif decide ((0 : Int) < (l4.length : Int)) then
    (l4[0]?).bind fun p5 =>
    (putPart p5 2 1 (PV.int .u64 9223372036854775808) 0).bind fun p6 =>
    r16 l11 v22 v23 v3 (IntKind.i64.wrap (1 + v6)) ((l4.set 0 p6).take l4.length)
   else none
  else
   bif (v24 == 1) then
    bif decide ((0 : Int) ≤ IntKind.i64.wrap ((l4.length : Int) - 1)) && decide (IntKind.i64.wrap ((l4.length : Int) - 1) ≤ (l4.length : Int)) then
     r16 l11 v22 v23 v3 (IntKind.i64.wrap (1 + v6)) (l4.take ((IntKind.i64.wrap ((l4.length : Int) - 1)).toNat))
    else none
   else
    bif (v24 == 2) then
     R30 (c30 k [PV.int .i64 0, PV.int .i64 4, PV.int .i64 5] l11 v22 v23) fun l12 v25 v26 v27 =>
     r16 l12 v25 v26 v3 v27 (l4.take l4.length)
    else
     bif (v24 == 3) then
      R31 (c31 k 23 l11 v22 v23) fun l13 v28 v29 v30 =>
      bif decide ((0 : Int) ≤ IntKind.i64.wrap ((l4.length : Int) - 1)) && decide (IntKind.i64.wrap ((l4.length : Int) - 1) < (l4.length : Int)) then
       (l4[0 + ((IntKind.i64.wrap ((l4.length : Int) - 1)).toNat)]?).bind fun p7 =>
       (putPart p7 2 0 (PV.int .i64 v30) 0).bind fun p8 =>
       r16 l13 v28 v29 v3 (IntKind.i64.wrap (1 + v6)) ((l4.set (0 + ((IntKind.i64.wrap ((l4.length : Int) - 1)).toNat)) p8).take l4.length)
      else none
     else r16 l11 v22 v23 v3 (IntKind.i64.wrap (1 + v6)) (l4.take l4.length) := by kernel_rfl
/-! 17 : spec.l1Cur).state -/
theorem n17 (k : Nat) (wide vars : Int) (l : List PV) (n1 n11 : Int) : c17 (k + 1) wide vars l n1 n11 =
 L17_1 k k wide vars 0 0 l n1 n11 [] := by kernel_rfl
theorem sL17_1 (k n : Nat) (wide vars : Int) (lLen : Nat) (k1 : Int) (l : List PV) (n1 n11 : Int) (xs : List PV) : L17_1 k (n + 1) wide vars lLen k1 l n1 n11 xs =
 bif decide (k1 < vars) then
  R35 (c35 k wide l n1 n11) fun l1 v1 v2 v3 =>
  bif decide ((lLen + 1) * 8 ≤ LIM) && decide (lLen + 1 ≤ LIM) then
   L17_1 k n wide vars (lLen + 1) (IntKind.i64.wrap (k1 + 1)) l1 v1 v2 ((xs.take lLen) ++ [PV.int .u64 v3])
  else none
 else r17 l n1 n11 (xs.take lLen) := by kernel_rfl
/-! 18 : impl.isState -/
theorem n18 (k : Nat) (wide vars : Int) (state : List PV) : c18 (k + 1) wide vars state =
 R36 (c36 k wide) fun b1 =>
 bif b1 then
  R37 (c37 k vars) fun b2 =>
  bif b2 then
   bif ((state.length : Int) == vars) then
    R38 (c38 k state wide) fun v1 b3 =>
    r18 (!b3)
   else r18 false
  else r18 false
 else r18 false := by kernel_rfl
/-! 19 : impl.GoodTerm -/
theorem n19 (k : Nat) (wide vars : Int) (t : List PV) : c19 (k + 1) wide vars t =
 R36 (c36 k wide) fun b1 =>
 bif !b1 then
  r19 false
 else
  R37 (c37 k vars) fun b2 =>
  bif !b2 then
   r19 false
  else
   bif decide ((t.length : Int) < 1) then
    r19 false
   else
    bif decide ((t.length : Int) > 48) then
     r19 false
    else L19_1 k k wide vars 0 t (t.length : Int) 0 [] := by kernel_rfl
theorem sL19_1 (k n : Nat) (wide vars : Int) (stackLen : Nat) (t33 : List PV) (t34 t35 : Int) (xs : List PV) : L19_1 k (n + 1) wide vars stackLen t33 t34 t35 xs =
 bif decide (t35 < t34) then
  (lookP t33 t35).bind fun p1 =>
  bif p1.shp 2 then
   (p1.atInt .i64 0).bind fun n1 =>
   (p1.atInt .u64 1).bind fun n2 =>
   R41 (c41 k n1) fun v1 v2 v3 =>
   bif (v3 == 0) then
    r19 false
   else
    R42 (c42 k wide vars n1 n2) fun b1 =>
    bif !b1 then
     r19 false
    else
     bif decide (IntKind.i64.wrap ((stackLen : Int) - v1) < 0) then
      r19 false
     else
      bif decide ((0 : Int) ≤ IntKind.i64.wrap ((stackLen : Int) - v1)) && decide (IntKind.i64.wrap ((stackLen : Int) - v1) ≤ (stackLen : Int)) && decide ((stackLen : Int) ≤ (stackLen : Int)) then
       R43p (c43 k ((xs.drop (0 + ((IntKind.i64.wrap ((stackLen : Int) - v1)).toNat))).take (stackLen - ((IntKind.i64.wrap ((stackLen : Int) - v1)).toNat))) v2) fun v4 b2 =>
       bif b2 then
        r19 false
       else
        bif decide ((0 : Int) ≤ IntKind.i64.wrap ((stackLen : Int) - v1)) && decide (IntKind.i64.wrap ((stackLen : Int) - v1) ≤ (stackLen : Int)) then
         bif decide ((((IntKind.i64.wrap ((stackLen : Int) - v1)).toNat) + 1) * 8 ≤ LIM) && decide (((IntKind.i64.wrap ((stackLen : Int) - v1)).toNat) + 1 ≤ LIM) then
          L19_1 k n wide vars (((IntKind.i64.wrap ((stackLen : Int) - v1)).toNat) + 1) t33 t34 (IntKind.i64.wrap (t35 + 1)) ((xs.take ((IntKind.i64.wrap ((stackLen : Int) - v1)).toNat)) ++ [PV.int .i64 v3])
         else none
        else none
      else none
  else none
 else r19 ((stackLen : Int) == 1) := by kernel_rfl
/-! 20 : impl.valueOf -/
theorem n20 (k : Nat) (wide : Int) (t state : List PV) : c20 (k + 1) wide t state =
 L20_1 k k wide state 0 t (t.length : Int) 0 [] := by kernel_rfl
theorem sL20_1 (k n : Nat) (wide : Int) (state : List PV) (stackLen : Nat) (t12 : List PV) (t13 t14 : Int) (xs : List PV) : L20_1 k (n + 1) wide state stackLen t12 t13 t14 xs =
 bif decide (t14 < t13) then
  (lookP t12 t14).bind fun p1 =>
  bif p1.shp 2 then
   (p1.atInt .i64 0).bind fun n1 =>
   (p1.atInt .u64 1).bind fun n2 =>
   bif (n1 == 1) then
    bif decide ((stackLen + 1) * 8 ≤ LIM) && decide (stackLen + 1 ≤ LIM) then
     L20_1 k n wide state (stackLen + 1) t12 t13 (IntKind.i64.wrap (t14 + 1)) ((xs.take stackLen) ++ [PV.int .u64 n2])
    else none
   else
    bif (n1 == 20) then
     bif decide ((stackLen + 1) * 8 ≤ LIM) && decide (stackLen + 1 ≤ LIM) then
      L20_1 k n wide state (stackLen + 1) t12 t13 (IntKind.i64.wrap (t14 + 1)) ((xs.take stackLen) ++ [PV.int .u64 n2])
     else none
    else
     bif (n1 == 2) then
      (lookP state n2).bind fun p2 =>
      (p2.atInt .u64 0).bind fun n3 =>
      bif decide ((stackLen + 1) * 8 ≤ LIM) && decide (stackLen + 1 ≤ LIM) then
       L20_1 k n wide state (stackLen + 1) t12 t13 (IntKind.i64.wrap (t14 + 1)) ((xs.take stackLen) ++ [PV.int .u64 n3])
      else none
     else
      bif (n1 == 13) then
       bif decide ((0 : Int) ≤ IntKind.i64.wrap ((stackLen : Int) - 1)) && decide (IntKind.i64.wrap ((stackLen : Int) - 1) < (stackLen : Int)) then
        (xs[0 + ((IntKind.i64.wrap ((stackLen : Int) - 1)).toNat)]?).bind fun p3 =>
        (p3.atInt .u64 0).bind fun n4 =>
        R45 (c45 k wide) fun v1 =>
        bif decide ((0 : Int) ≤ IntKind.i64.wrap ((stackLen : Int) - 1)) && decide (IntKind.i64.wrap ((stackLen : Int) - 1) < (stackLen : Int)) then
         (xs[0 + ((IntKind.i64.wrap ((stackLen : Int) - 1)).toNat)]?).bind fun p4 =>
         L20_1 k n wide state stackLen t12 t13 (IntKind.i64.wrap (t14 + 1)) (xs.set (0 + ((IntKind.i64.wrap ((stackLen : Int) - 1)).toNat)) (PV.int .u64 (bitsOp .and .u64 (bitsOp .xor .u64 18446744073709551615 n4) v1)))
        else none
       else none
      else
       bif (n1 == 19) then
        bif decide ((0 : Int) ≤ IntKind.i64.wrap ((stackLen : Int) - 1)) && decide (IntKind.i64.wrap ((stackLen : Int) - 1) < (stackLen : Int)) then
         (xs[0 + ((IntKind.i64.wrap ((stackLen : Int) - 1)).toNat)]?).bind fun p5 =>
         (p5.atInt .u64 0).bind fun n5 =>
         bif decide ((0 : Int) ≤ IntKind.i64.wrap ((stackLen : Int) - 1)) && decide (IntKind.i64.wrap ((stackLen : Int) - 1) < (stackLen : Int)) then
          (xs[0 + ((IntKind.i64.wrap ((stackLen : Int) - 1)).toNat)]?).bind fun p6 =>
          L20_1 k n wide state stackLen t12 t13 (IntKind.i64.wrap (t14 + 1)) (xs.set (0 + ((IntKind.i64.wrap ((stackLen : Int) - 1)).toNat)) (PV.int .u64 (IntKind.u64.wrap (1 - n5))))
         else none
        else none
       else
        bif decide ((0 : Int) ≤ IntKind.i64.wrap ((IntKind.i64.wrap ((stackLen : Int) - 1)) - 1)) && decide (IntKind.i64.wrap ((IntKind.i64.wrap ((stackLen : Int) - 1)) - 1) ≤ (stackLen : Int)) then
         bif decide ((0 : Int) ≤ IntKind.i64.wrap ((IntKind.i64.wrap ((stackLen : Int) - 1)) - 1)) && decide (IntKind.i64.wrap ((IntKind.i64.wrap ((stackLen : Int) - 1)) - 1) < (stackLen : Int)) then
          (xs[0 + ((IntKind.i64.wrap ((IntKind.i64.wrap ((stackLen : Int) - 1)) - 1)).toNat)]?).bind fun p7 =>
          (p7.atInt .u64 0).bind fun n6 =>
          bif decide ((0 : Int) ≤ IntKind.i64.wrap ((stackLen : Int) - 1)) && decide (IntKind.i64.wrap ((stackLen : Int) - 1) < (stackLen : Int)) then
           (xs[0 + ((IntKind.i64.wrap ((stackLen : Int) - 1)).toNat)]?).bind fun p8 =>
           (p8.atInt .u64 0).bind fun n7 =>
           R46 (c46 k wide n1 n6 n7) fun v2 =>
           bif decide ((((IntKind.i64.wrap ((IntKind.i64.wrap ((stackLen : Int) - 1)) - 1)).toNat) + 1) * 8 ≤ LIM) && decide (((IntKind.i64.wrap ((IntKind.i64.wrap ((stackLen : Int) - 1)) - 1)).toNat) + 1 ≤ LIM) then
            L20_1 k n wide state (((IntKind.i64.wrap ((IntKind.i64.wrap ((stackLen : Int) - 1)) - 1)).toNat) + 1) t12 t13 (IntKind.i64.wrap (t14 + 1)) ((xs.take ((IntKind.i64.wrap ((IntKind.i64.wrap ((stackLen : Int) - 1)) - 1)).toNat)) ++ [PV.int .u64 v2])
           else none
          else none
         else none
        else none
  else none
 else
  bif decide ((0 : Int) < (stackLen : Int)) then
   (xs[0]?).bind fun p9 =>
   (p9.atInt .u64 0).bind fun n8 =>
   r20 n8
  else none := by kernel_rfl
/-! 21 : spec.GoodTerm -/
theorem n21 (k : Nat) (wide vars : Int) (t : List PV) : c21 (k + 1) wide vars t =
 R47 (c47 k wide vars t) fun v1 =>
 r21 (decide (v1 > 0)) := by kernel_rfl
/-! 22 : spec.l2Words -/
theorem n22 (k : Nat) (wide : Int) (state : List PV) : c22 (k + 1) wide state =
 L22_1 k k wide state (state.length : Int) 0 := by kernel_rfl
theorem sL22_1 (k n : Nat) (wide : Int) (t7 : List PV) (t8 t9 : Int) : L22_1 k (n + 1) wide t7 t8 t9 =
 bif decide (t9 < t8) then
  (lookP t7 t9).bind fun p1 =>
  (p1.atInt .u64 0).bind fun n1 =>
  R48 (c48 k wide n1) fun b1 =>
  bif !b1 then
   r22 false
  else L22_1 k n wide t7 t8 (IntKind.i64.wrap (t9 + 1))
 else r22 true := by kernel_rfl
/-! 23 : spec.l2Value -/
theorem n23 (k : Nat) (wide : Int) (t : List PV) (k1 : Int) (state : List PV) : c23 (k + 1) wide t k1 state =
 (lookP t k1).bind fun p1 =>
 bif p1.shp 2 then
  (p1.atInt .i64 0).bind fun n1 =>
  (p1.atInt .u64 1).bind fun n2 =>
  R49 (c49 k n1) fun v1 v2 v3 =>
  bif (n1 == 2) then
   (lookP state n2).bind fun p2 =>
   (p2.atInt .u64 0).bind fun n3 =>
   r23 n3
  else
   bif (v1 == 0) then
    r23 n2
   else
    bif (n1 == 13) then
     R23 (c23 k wide t (IntKind.i64.wrap (k1 - 1)) state) fun v4 =>
     R50 (c50 k wide (bitsOp .xor .u64 18446744073709551615 v4)) fun v5 =>
     r23 v5
    else
     bif (n1 == 19) then
      R23 (c23 k wide t (IntKind.i64.wrap (k1 - 1)) state) fun v6 =>
      r23 (IntKind.u64.wrap (1 - v6))
     else
      R52 (c52 k t (IntKind.i64.wrap (k1 - 1))) fun v7 =>
      R23 (c23 k wide t (IntKind.i64.wrap (v7 - 1)) state) fun v8 =>
      R23 (c23 k wide t (IntKind.i64.wrap (k1 - 1)) state) fun v9 =>
      R51 (c51 k wide n1 v8 v9) fun v10 =>
      r23 v10
 else none := by kernel_rfl
/-! 24 : impl.fold -/
theorem n24 (k : Nat) (wide : Int) (t : List PV) : c24 (k + 1) wide t =
 R26 (c26 k t) fun l1 =>
 bif ((l1.length : Int) == 0) then
  R27 (c27 k t) fun v1 =>
  bif (v1 == 2) then
   R20 (c20 k wide t []) fun v2 =>
   r24 [PV.agg [.int .i64 20, .int .u64 v2]]
  else
   R20 (c20 k wide t []) fun v3 =>
   r24 [PV.agg [.int .i64 1, .int .u64 v3]]
 else
  (lookP t (IntKind.i64.wrap ((t.length : Int) - 1))).bind fun p1 =>
  bif p1.shp 2 then
   (p1.atInt .i64 0).bind fun n1 =>
   (p1.atInt .u64 1).bind fun n2 =>
   L24_1 k k wide t 1 (IntKind.i64.wrap ((t.length : Int) - 1)) [PV.agg [.int .i64 n1, .int .u64 n2]]
  else none := by kernel_rfl
theorem sL24_1 (k n : Nat) (wide : Int) (t : List PV) (outLen : Nat) (end1 : Int) (xs : List PV) : L24_1 k (n + 1) wide t outLen end1 xs =
 bif decide (end1 > 0) then
  R53 (c53 k t (IntKind.i64.wrap (end1 - 1))) fun v1 =>
  bif decide ((0 : Int) ≤ v1) && decide (v1 ≤ end1) && decide (end1 ≤ (t.length : Int)) then
   R24 (c24 k wide ((t.take end1.toNat).drop v1.toNat)) fun l1 =>
   bif decide ((l1.length + ((xs.take outLen).length)) * 16 ≤ LIM) && decide (l1.length + ((xs.take outLen).length) ≤ LIM) then
    L24_1 k n wide t (l1.length + ((xs.take outLen).length)) v1 ((l1.take l1.length) ++ (xs.take outLen))
   else none
  else none
 else r24 (xs.take outLen) := by kernel_rfl
/-! 25 : spec.l2Fold -/
theorem n25 (k : Nat) (wide : Int) (t : List PV) (k1 : Int) : c25 (k + 1) wide t k1 =
 R52 (c52 k t k1) fun v1 =>
 bif decide ((0 : Int) ≤ v1) && decide (v1 ≤ IntKind.i64.wrap (k1 + 1)) && decide (IntKind.i64.wrap (k1 + 1) ≤ (t.length : Int)) then
  R29 (c29 k ((t.take ((IntKind.i64.wrap (k1 + 1)).toNat)).drop v1.toNat)) fun l1 =>
  bif ((l1.length : Int) == 0) then
   (lookP t k1).bind fun p1 =>
   (p1.atInt .i64 0).bind fun n1 =>
   R49 (c49 k n1) fun v2 v3 v4 =>
   bif (v4 == 2) then
    R23 (c23 k wide t k1 []) fun v5 =>
    r25 [PV.agg [.int .i64 20, .int .u64 v5]]
   else
    R23 (c23 k wide t k1 []) fun v6 =>
    r25 [PV.agg [.int .i64 1, .int .u64 v6]]
  else
   (lookP t k1).bind fun p2 =>
   (p2.atInt .i64 0).bind fun n2 =>
   R49 (c49 k n2) fun v7 v8 v9 =>
   bif (v7 == 0) then
    (lookP t k1).bind fun p3 =>
    bif p3.shp 2 then
     (p3.atInt .i64 0).bind fun n3 =>
     (p3.atInt .u64 1).bind fun n4 =>
     r25 [PV.agg [.int .i64 n3, .int .u64 n4]]
    else none
   else
    R25 (c25 k wide t (IntKind.i64.wrap (k1 - 1))) fun l2 =>
    bif (v7 == 2) then
     R52 (c52 k t (IntKind.i64.wrap (k1 - 1))) fun v10 =>
     R25 (c25 k wide t (IntKind.i64.wrap (v10 - 1))) fun l3 =>
     bif decide ((l3.length + ((l2.take l2.length).length)) * 16 ≤ LIM) && decide (l3.length + ((l2.take l2.length).length) ≤ LIM) then
      (lookP t k1).bind fun p4 =>
      bif p4.shp 2 then
       (p4.atInt .i64 0).bind fun n5 =>
       (p4.atInt .u64 1).bind fun n6 =>
       bif decide (((l3.length + ((l2.take l2.length).length)) + 1) * 16 ≤ LIM) && decide ((l3.length + ((l2.take l2.length).length)) + 1 ≤ LIM) then
        r25 (((((l3.take l3.length) ++ (l2.take l2.length)).take (l3.length + ((l2.take l2.length).length))) ++ [PV.agg [.int .i64 n5, .int .u64 n6]]).take ((l3.length + ((l2.take l2.length).length)) + 1))
       else none
      else none
     else none
    else
     (lookP t k1).bind fun p5 =>
     bif p5.shp 2 then
      (p5.atInt .i64 0).bind fun n7 =>
      (p5.atInt .u64 1).bind fun n8 =>
      bif decide ((l2.length + 1) * 16 ≤ LIM) && decide (l2.length + 1 ≤ LIM) then
       r25 (((l2.take l2.length) ++ [PV.agg [.int .i64 n7, .int .u64 n8]]).take (l2.length + 1))
      else none
     else none
 else none := by kernel_rfl
/-! 26 : impl.varsIn -/
theorem n26 (k : Nat) (t : List PV) : c26 (k + 1) t =
 L26_1 k k 0 t (t.length : Int) 0 [] := by kernel_rfl
theorem sL26_1 (k n : Nat) (outLen : Nat) (t7 : List PV) (t8 t9 : Int) (xs : List PV) : L26_1 k (n + 1) outLen t7 t8 t9 xs =
 bif decide (t9 < t8) then
  (lookP t7 t9).bind fun p1 =>
  bif p1.shp 2 then
   (p1.atInt .i64 0).bind fun n1 =>
   (p1.atInt .u64 1).bind fun n2 =>
   bif (n1 == 2) then
    bif decide ((outLen + 1) * 8 ≤ LIM) && decide (outLen + 1 ≤ LIM) then
     L26_1 k n (outLen + 1) t7 t8 (IntKind.i64.wrap (t9 + 1)) ((xs.take outLen) ++ [PV.int .i64 (IntKind.i64.wrap n2)])
    else none
   else L26_1 k n outLen t7 t8 (IntKind.i64.wrap (t9 + 1)) xs
  else none
 else
  bif decide (outLen ≤ LIM) then
   (intsOf (xs.take outLen)).bind fun zs1 =>
   bif decide (outLen ≤ LIM) then
    (intsOf ((((sortI zs1).map (PV.int .i64)) ++ (xs.drop outLen)).take outLen)).bind fun zs2 =>
    r26 (((((compI zs2).map (PV.int .i64)) ++ (List.replicate (outLen - (compI zs2).length) (PV.int .i64 0))) ++ ((((sortI zs1).map (PV.int .i64)) ++ (xs.drop outLen)).drop outLen)).take ((compI zs2).length))
   else none
  else none := by kernel_rfl
/-! 27 : impl.kindOf -/
theorem n27 (k : Nat) (t : List PV) : c27 (k + 1) t =
 (lookP t (IntKind.i64.wrap ((t.length : Int) - 1))).bind fun p1 =>
 (p1.atInt .i64 0).bind fun n1 =>
 R41 (c41 k n1) fun v1 v2 v3 =>
 r27 v3 := by kernel_rfl
/-! 28 : spec.DrawGoodTerm -/
theorem n28 (k : Nat) (code : List PV) : c28 (k + 1) code =
 R16 (c16 k code 0 0) fun l1 v1 v2 v3 v4 l2 =>
 r28 v3 v4 l2 := by kernel_rfl
end Go.Proofs.Ytocmjgfbcpgaoaa
