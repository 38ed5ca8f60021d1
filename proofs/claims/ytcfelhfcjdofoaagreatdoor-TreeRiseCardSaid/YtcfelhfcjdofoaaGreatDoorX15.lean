/- Part 16 of a proof of a statement about the given program: an abstract machine over the model, proved sound, and contracts of the functions that the statement reaches; the last part proves the statement, for every input, with no condition. -/
import Derived.Test.YtcfelhfcjdofoaaGreatDoorX14
import Derived.Test.YtcfelhfcjdofoaaGreatDoorX13
set_option linter.unusedSimpArgs false
set_option linter.unusedVariables false
/- Small things; SameInts. -/
set_option autoImplicit false
namespace Go.Ab
open Go.Proofs
def ints (f : Bool) (l : List Int) : AV := .row 3 f l.length (fun i => .int (l.getD i 0))
theorem finI {P : Program} {T : Nat → TI} {N nt : Nat} (hT : TOK P T N) {t : Nat → Option (D × AV)} {m : Id → Option Ob} {k : Nat} {b r : Int} (h : t k = some (.always, .v (.int .i64 b))) (e : b = r) : Fin T N nt 0 [.tmp k] (.int r) [] ⟨t, m⟩ := by
  subst e
  refine ⟨[(k, .int b)], Ent.mk hT [] trivial ⟨⟨rfl, _, h, conv_eq rfl⟩, trivial⟩ trivial rfl, ([.int b], none), ?_, trivial, rfl⟩
  simp [resL, mkSt, lookN, notTup]
theorem bor (a b : Bool) : (bif a then true else b) = (a || b) := by cases a <;> rfl
theorem band (a b : Bool) : (bif a then b else false) = (a && b) := by cases a <;> rfl
end Go.Ab


/- Programs; what is wrong with an operand. -/
set_option autoImplicit false
set_option maxRecDepth 20000
set_option maxHeartbeats 1000000
set_option linter.unusedSimpArgs false
set_option linter.unusedVariables false
namespace Go.Ab
open Go.Proofs
structure PVar where
  atomic : Bool
  init : Int
structure PIns where
  op : Int
  a : Int
  b : Int
  c : Int
  n : Int
structure PCase where
  send : Bool
  chan : Int
  reg : Int
  to : Int
structure PSel where
  cases : List PCase
  els : Int
structure PFun where
  params : Int
  regs : Int
  code : List PIns
  sels : List PSel
structure PProg where
  vars : List PVar
  locks : Int
  chans : List Int
  funcs : List PFun
def encVar (x : PVar) : AV := stru 116 [.bool x.atomic, .int x.init]
def encIns (x : PIns) : AV := stru 120 [.int x.op, .int x.a, .int x.b, .int x.c, .int x.n]
def encCase (x : PCase) : AV := stru 215 [.bool x.send, .int x.chan, .int x.reg, .int x.to]
def rowP {α : Type} (t : Nat) (enc : α → AV) (d : α) (l : List α) : AV := .row t false l.length (fun i => enc (l.getD i d))
def case0 : PCase := ⟨false, 0, 0, 0⟩
def encSel (x : PSel) : AV := stru 103 [rowP 215 encCase case0 x.cases, .int x.els]
def ins0 : PIns := ⟨0, 0, 0, 0, 0⟩
def sel0 : PSel := ⟨[], 0⟩
def encFun (x : PFun) : AV := stru 100 [.int x.params, .int x.regs, rowP 120 encIns ins0 x.code, rowP 103 encSel sel0 x.sels]
def var0 : PVar := ⟨false, 0⟩
def fun0 : PFun := ⟨0, 0, [], []⟩
def encProg (x : PProg) : AV := stru 26 [rowP 116 encVar var0 x.vars, .int x.locks, ints false x.chans, rowP 100 encFun fun0 x.funcs]
def encCk (p : PProg) (f : PFun) : AV := stru 257 [encProg p, encFun f]
def withinB (n most : Int) : Bool := decide (n ≥ 0) && decide (n < most)
theorem within_ac (n m : Int) : AC Tryz.prog T tysN 260 [.int n, .int m] [] (.bool (withinB n m)) [] := by
 refine AC_intro hT Tryz.func260 rfl rfl (Nat.le_of_ble_eq_true rfl) ?_
 refine sq (rg [] rfl ?_)
 refine sq (rg [] rfl ?_)
 refine WP.ret ?_
 change Fin ..
 exact fin1 hT (by rfl) (by rw [band]; rfl)
theorem rwithin_ac (n m : Int) : AC Tryz.prog T tysN 150 [.int n, .int m] [] (.bool (withinB n m)) [] := by
 refine AC_intro hT Tryz.func150 rfl rfl (Nat.le_of_ble_eq_true rfl) ?_
 refine sq (rg [] rfl ?_)
 refine sq (rg [] rfl ?_)
 refine WP.ret ?_
 change Fin ..
 exact fin1 hT (by rfl) (by rw [band]; rfl)
def objF (n most : Int) : Int := if withinB n most then 0 else 36
def regF (f : PFun) (n : Int) : Int := if withinB n f.regs then 0 else 35
def tgtF (f : PFun) (n : Int) : Int := if withinB n f.code.length then 0 else 38
theorem object_ac (n m : Int) : AC Tryz.prog T tysN 212 [.int n, .int m] [] (.int (objF n m)) [] := by
 refine AC_intro hT Tryz.func212 rfl rfl (Nat.le_of_ble_eq_true rfl) ?_
 refine sq (rg [] rfl ?_)
 refine sq (sq (rgs [CG.pure (.bool (withinB n m))] rfl ?_ ?_))
 ·exact within_ac n m
 refine cd rfl (fun h1 => ?_) (fun h1 => ?_)
 ·have h : withinB n m = false := by simpa using h1
  refine sq (rg [] rfl ?_)
  refine WP.ret ?_
  change Fin ..
  exact finI hT (by rfl) (by simp [objF, h])
 ·have h : withinB n m = true := by simpa using h1
  refine sk (sq (rg [] rfl ?_))
  refine WP.ret ?_
  change Fin ..
  exact finI hT (by rfl) (by simp [objF, h])
theorem register_ac (p : PProg) (f : PFun) (n : Int) : AC Tryz.prog T tysN 213 [.rp 257 (encCk p f), .int n] [] (.int (regF f n)) [] := by
 refine AC_intro hT Tryz.func213 rfl rfl (Nat.le_of_ble_eq_true rfl) ?_
 refine sq (rg [] rfl ?_)
 refine sq (sq (rgs [CG.pure (.bool (withinB n f.regs))] rfl ?_ ?_))
 ·exact within_ac n f.regs
 refine cd rfl (fun h1 => ?_) (fun h1 => ?_)
 ·have h : withinB n f.regs = false := by simpa using h1
  refine sq (rg [] rfl ?_)
  refine WP.ret ?_
  change Fin ..
  exact finI hT (by rfl) (by simp [regF, h])
 ·have h : withinB n f.regs = true := by simpa using h1
  refine sk (sq (rg [] rfl ?_))
  refine WP.ret ?_
  change Fin ..
  exact finI hT (by rfl) (by simp [regF, h])
theorem target_ac (p : PProg) (f : PFun) (n : Int) : AC Tryz.prog T tysN 214 [.rp 257 (encCk p f), .int n] [] (.int (tgtF f n)) [] := by
 refine AC_intro hT Tryz.func214 rfl rfl (Nat.le_of_ble_eq_true rfl) ?_
 refine sq (rg [] rfl ?_)
 refine sq (sq (rgs [CG.pure (.bool (withinB n f.code.length))] rfl ?_ ?_))
 ·exact within_ac n f.code.length
 refine cd rfl (fun h1 => ?_) (fun h1 => ?_)
 ·have h : withinB n f.code.length = false := by simpa using h1
  refine sq (rg [] rfl ?_)
  refine WP.ret ?_
  change Fin ..
  exact finI hT (by rfl) (by simp [tgtF, h])
 ·have h : withinB n f.code.length = true := by simpa using h1
  refine sk (sq (rg [] rfl ?_))
  refine WP.ret ?_
  change Fin ..
  exact finI hT (by rfl) (by simp [tgtF, h])
end Go.Ab


/- What is wrong with an operand. -/
set_option autoImplicit false
set_option maxRecDepth 20000
set_option maxHeartbeats 4000000
set_option linter.unusedSimpArgs false
set_option linter.unusedVariables false
namespace Go.Ab
open Go.Proofs
def parF (f : PFun) (n k : Int) : Int := if (k == 0 && n != 0) || (decide (k > 0) && (decide (n < 0) || decide (n > IntKind.i64.wrap (f.regs - k)))) then 35 else 0
def atomF (p : PProg) (n : Int) : Int := if withinB n p.vars.length then (if (p.vars.getD n.toNat var0).atomic then 0 else 37) else 36
def opndF (p : PProg) (f : PFun) (c n : Int) (x : PIns) : Int :=
  if c = 111 then (if n = -1 then 0 else regF f n) else if c = 114 then regF f n else if c = 119 then regF f n else
  if c = 118 then objF n p.vars.length else if c = 97 then atomF p n else if c = 108 then objF n p.locks else
  if c = 99 then objF n p.chans.length else if c = 115 then objF n f.sels.length else if c = 102 then objF n p.funcs.length else
  if c = 116 then tgtF f n else if c = 112 then parF f n (p.funcs.getD x.b.toNat fun0).params else 0
theorem objF_ok {n m : Int} (h : objF n m = 0) : 0 ≤ n ∧ n < m := by
  unfold objF at h
  split at h
  · rename_i hw
    simpa [withinB] using hw
  · cases h
theorem operand_ac (p : PProg) (f : PFun) (c n : Int) (x : PIns) (hx : c = 112 → 0 ≤ x.b ∧ x.b < p.funcs.length) : AC Tryz.prog T tysN 217 [.rp 257 (encCk p f), .v (.int .u8 c), .int n, encIns x] [] (.int (opndF p f c n x)) [] := by
 refine AC_intro hT Tryz.func217 rfl rfl (Nat.le_of_ble_eq_true rfl) ?_
 refine sq (rg [] rfl ?_)
 refine sq (sq (rg [] rfl ?_))
 refine bk (sq (rg [] rfl ?_))
 refine cd rfl (fun h2 => ?_) (fun h2 => ?_)
 ·refine sq (sq (rg [] rfl ?_))
  refine cd rfl (fun h3 => ?_) (fun h3 => ?_)
  ·refine sq (rg [] rfl ?_)
   refine WP.ret ?_
   change Fin ..
   refine finI hT (by rfl) ?_
   first | (simp_all [opndF]; done) | (simp_all [opndF, atomF, objF]; done) | (simp_all [opndF, atomF, objF, parF, bor, band]; done)
  ·refine sk (sq (rgs [CG.pure (.int (regF f n))] rfl ?_ ?_))
   ·exact register_ac p f n
   refine WP.ret ?_
   change Fin ..
   refine finI hT (by rfl) ?_
   first | (simp_all [opndF]; done) | (simp_all [opndF, atomF, objF]; done) | (simp_all [opndF, atomF, objF, parF, bor, band]; done)
 ·refine sq (sq (rg [] rfl ?_))
  refine cd rfl (fun h6 => ?_) (fun h6 => ?_)
  ·refine sk ?_
   refine cd rfl (fun h6 => ?_) (fun h6 => ?_)
   ·refine sq (rgs [CG.pure (.int (regF f n))] rfl ?_ ?_)
    ·exact register_ac p f n
    refine WP.ret ?_
    change Fin ..
    refine finI hT (by rfl) ?_
    first | (simp_all [opndF]; done) | (simp_all [opndF, atomF, objF]; done) | (simp_all [opndF, atomF, objF, parF, bor, band]; done)
   ·simp_all
  ·refine rg [] rfl ?_
   refine cd rfl (fun h7 => ?_) (fun h7 => ?_)
   ·refine sq (rgs [CG.pure (.int (regF f n))] rfl ?_ ?_)
    ·exact register_ac p f n
    refine WP.ret ?_
    change Fin ..
    refine finI hT (by rfl) ?_
    first | (simp_all [opndF]; done) | (simp_all [opndF, atomF, objF]; done) | (simp_all [opndF, atomF, objF, parF, bor, band]; done)
   ·refine sq (rg [] rfl ?_)
    refine cd rfl (fun h9 => ?_) (fun h9 => ?_)
    ·refine sq (sq (rgs [CG.pure (.int (objF n p.vars.length))] rfl ?_ ?_))
     ·exact object_ac n p.vars.length
     refine sq (rg [] rfl ?_)
     refine cd rfl (fun h11 => ?_) (fun h11 => ?_)
     ·refine sq (rg [] rfl ?_)
      refine WP.ret ?_
      change Fin ..
      refine finI hT (by rfl) ?_
      first | (simp_all [opndF]; done) | (simp_all [opndF, atomF, objF]; done) | (simp_all [opndF, atomF, objF, parF, bor, band]; done)
     ·refine sk (sq (rg [] rfl ?_))
      refine WP.ret ?_
      change Fin ..
      refine finI hT (by rfl) ?_
      first | (simp_all [opndF]; done) | (simp_all [opndF, atomF, objF]; done) | (simp_all [opndF, atomF, objF, parF, bor, band]; done)
    ·refine sq (rg [] rfl ?_)
     refine cd rfl (fun h14 => ?_) (fun h14 => ?_)
     ·refine sq (sq (rgs [CG.pure (.int (objF n p.vars.length))] rfl ?_ ?_))
      ·exact object_ac n p.vars.length
      refine sq (rg [] rfl ?_)
      refine cd rfl (fun h16 => ?_) (fun h16 => ?_)
      ·refine sq (rg [] rfl ?_)
       refine WP.ret ?_
       change Fin ..
       refine finI hT (by rfl) ?_
       first | (simp_all [opndF]; done) | (simp_all [opndF, atomF, objF]; done) | (simp_all [opndF, atomF, objF, parF, bor, band]; done)
      ·have hv := objF_ok (show objF n p.vars.length = 0 by simpa using h16)
       refine sk (sq (rgs [] rfl ?_ ?_))
       ·simp [holdsC, under]; omega
       refine cd rfl (fun h18 => ?_) (fun h18 => ?_)
       ·refine sq (rg [] rfl ?_)
        refine WP.ret ?_
        change Fin ..
        refine finI hT (by rfl) ?_
        first | (simp_all [opndF]; done) | (simp_all [opndF, atomF, objF]; done) | (simp_all [opndF, atomF, objF, parF, bor, band]; done)
       ·refine sk (sq (rg [] rfl ?_))
        refine WP.ret ?_
        change Fin ..
        refine finI hT (by rfl) ?_
        first | (simp_all [opndF]; done) | (simp_all [opndF, atomF, objF]; done) | (simp_all [opndF, atomF, objF, parF, bor, band]; done)
     ·refine sq (rg [] rfl ?_)
      refine cd rfl (fun h20 => ?_) (fun h20 => ?_)
      ·refine sq (rgs [CG.pure (.int (objF n p.locks))] rfl ?_ ?_)
       ·exact object_ac n p.locks
       refine WP.ret ?_
       change Fin ..
       refine finI hT (by rfl) ?_
       first | (simp_all [opndF]; done) | (simp_all [opndF, atomF, objF]; done) | (simp_all [opndF, atomF, objF, parF, bor, band]; done)
      ·refine sq (rg [] rfl ?_)
       refine cd rfl (fun h22 => ?_) (fun h22 => ?_)
       ·refine sq (rgs [CG.pure (.int (objF n p.chans.length))] rfl ?_ ?_)
        ·exact object_ac n p.chans.length
        refine WP.ret ?_
        change Fin ..
        refine finI hT (by rfl) ?_
        first | (simp_all [opndF]; done) | (simp_all [opndF, atomF, objF]; done) | (simp_all [opndF, atomF, objF, parF, bor, band]; done)
       ·refine sq (rg [] rfl ?_)
        refine cd rfl (fun h24 => ?_) (fun h24 => ?_)
        ·refine sq (rgs [CG.pure (.int (objF n f.sels.length))] rfl ?_ ?_)
         ·exact object_ac n f.sels.length
         refine WP.ret ?_
         change Fin ..
         refine finI hT (by rfl) ?_
         first | (simp_all [opndF]; done) | (simp_all [opndF, atomF, objF]; done) | (simp_all [opndF, atomF, objF, parF, bor, band]; done)
        ·refine sq (rg [] rfl ?_)
         refine cd rfl (fun h26 => ?_) (fun h26 => ?_)
         ·refine sq (rgs [CG.pure (.int (objF n p.funcs.length))] rfl ?_ ?_)
          ·exact object_ac n p.funcs.length
          refine WP.ret ?_
          change Fin ..
          refine finI hT (by rfl) ?_
          first | (simp_all [opndF]; done) | (simp_all [opndF, atomF, objF]; done) | (simp_all [opndF, atomF, objF, parF, bor, band]; done)
         ·refine sq (rg [] rfl ?_)
          refine cd rfl (fun h28 => ?_) (fun h28 => ?_)
          ·refine sq (rgs [CG.pure (.int (tgtF f n))] rfl ?_ ?_)
           ·exact target_ac p f n
           refine WP.ret ?_
           change Fin ..
           refine finI hT (by rfl) ?_
           first | (simp_all [opndF]; done) | (simp_all [opndF, atomF, objF]; done) | (simp_all [opndF, atomF, objF, parF, bor, band]; done)
          ·refine sq (rg [] rfl ?_)
           refine cd rfl (fun h30 => ?_) (fun h30 => ?_)
           ·have hb := hx (by simpa using h30)
            refine sq (drs [] rfl ?_ ?_)
            ·simp [holdsC, under]; omega
            refine sq (rg [] rfl ?_)
            refine cd rfl (fun h32 => ?_) (fun h32 => ?_)
            ·refine sq (rg [] rfl ?_)
             refine WP.ret ?_
             change Fin ..
             refine finI hT (by rfl) ?_
             first | (simp_all [opndF]; done) | (simp_all [opndF, atomF, objF]; done) | (simp_all [opndF, atomF, objF, parF, bor, band]; done)
            ·refine sk (sq (rg [] rfl ?_))
             refine WP.ret ?_
             change Fin ..
             refine finI hT (by rfl) ?_
             first | (simp_all [opndF]; done) | (simp_all [opndF, atomF, objF]; done) | (simp_all [opndF, atomF, objF, parF, bor, band]; done)
           ·refine sk (sq (rg [] rfl ?_))
            refine WP.ret ?_
            change Fin ..
            refine finI hT (by rfl) ?_
            first | (simp_all [opndF]; done) | (simp_all [opndF, atomF, objF]; done) | (simp_all [opndF, atomF, objF, parF, bor, band]; done)
theorem roperand_ac (p : PProg) (f : PFun) (c n : Int) (x : PIns) (hx : c = 112 → 0 ≤ x.b ∧ x.b < p.funcs.length) : AC Tryz.prog T tysN 153 [encProg p, encFun f, .v (.int .u8 c), .int n, encIns x] [] (.int (opndF p f c n x)) [] := by
 refine AC_intro hT Tryz.func153 rfl rfl (Nat.le_of_ble_eq_true rfl) ?_
 refine sq (rg [] rfl ?_)
 refine sq (sq (rg [] rfl ?_))
 refine bk (sq (sq (rg [] rfl ?_)))
 refine cd rfl (fun h2 => ?_) (fun h2 => ?_)
 ·refine sk ?_
  refine cd rfl (fun h2 => ?_) (fun h2 => ?_)
  ·refine sq (rgs [CG.pure (.bool (withinB n f.regs))] rfl ?_ ?_)
   ·simp [holdsC, under, CG.pure]
    exact rwithin_ac n f.regs
   refine cd rfl (fun h4 => ?_) (fun h4 => ?_)
   ·refine sq (rg [] rfl ?_)
    refine WP.ret ?_
    change Fin ..
    refine finI hT (by rfl) ?_
    first | (simp_all [opndF, regF, tgtF]; done) | (simp_all [opndF, atomF, objF, regF, tgtF]; done) | (simp_all [opndF, atomF, objF, parF, bor, band, regF, tgtF]; done)
   ·refine sk (sq (rg [] rfl ?_))
    refine WP.ret ?_
    change Fin ..
    refine finI hT (by rfl) ?_
    first | (simp_all [opndF, regF, tgtF]; done) | (simp_all [opndF, atomF, objF, regF, tgtF]; done) | (simp_all [opndF, atomF, objF, parF, bor, band, regF, tgtF]; done)
  ·simp_all
 ·refine rg [] rfl ?_
  refine cd rfl (fun h3 => ?_) (fun h3 => ?_)
  ·refine sq (rgs [CG.pure (.bool (withinB n f.regs))] rfl ?_ ?_)
   ·simp [holdsC, under, CG.pure]
    exact rwithin_ac n f.regs
   refine cd rfl (fun h4 => ?_) (fun h4 => ?_)
   ·refine sq (rg [] rfl ?_)
    refine WP.ret ?_
    change Fin ..
    refine finI hT (by rfl) ?_
    first | (simp_all [opndF, regF, tgtF]; done) | (simp_all [opndF, atomF, objF, regF, tgtF]; done) | (simp_all [opndF, atomF, objF, parF, bor, band, regF, tgtF]; done)
   ·refine sk (sq (rg [] rfl ?_))
    refine WP.ret ?_
    change Fin ..
    refine finI hT (by rfl) ?_
    first | (simp_all [opndF, regF, tgtF]; done) | (simp_all [opndF, atomF, objF, regF, tgtF]; done) | (simp_all [opndF, atomF, objF, parF, bor, band, regF, tgtF]; done)
  ·refine sq (rg [] rfl ?_)
   refine cd rfl (fun h6 => ?_) (fun h6 => ?_)
   ·refine sq (rgs [CG.pure (.bool (withinB n f.regs))] rfl ?_ ?_)
    ·have hw := rwithin_ac n f.regs
     simp [holdsC, under, CG.pure]
     exact fun _ => hw
    refine cd rfl (fun h7 => ?_) (fun h7 => ?_)
    ·refine sq (rg [] rfl ?_)
     refine WP.ret ?_
     change Fin ..
     refine finI hT (by rfl) ?_
     first | (simp_all [opndF, regF, tgtF]; done) | (simp_all [opndF, atomF, objF, regF, tgtF]; done) | (simp_all [opndF, atomF, objF, parF, bor, band, regF, tgtF]; done)
    ·refine sk (sq (rg [] rfl ?_))
     refine WP.ret ?_
     change Fin ..
     refine finI hT (by rfl) ?_
     first | (simp_all [opndF, regF, tgtF]; done) | (simp_all [opndF, atomF, objF, regF, tgtF]; done) | (simp_all [opndF, atomF, objF, parF, bor, band, regF, tgtF]; done)
   ·refine sq (rg [] rfl ?_)
    refine cd rfl (fun h9 => ?_) (fun h9 => ?_)
    ·have hb := hx (by simpa using h9)
     refine sq (rgs [] rfl ?_ ?_)
     ·simp [holdsC, under]; omega
     refine sq (rg [] rfl ?_)
     refine cd rfl (fun h11 => ?_) (fun h11 => ?_)
     ·refine sq (rg [] rfl ?_)
      refine WP.ret ?_
      change Fin ..
      refine finI hT (by rfl) ?_
      first | (simp_all [opndF, regF, tgtF]; done) | (simp_all [opndF, atomF, objF, regF, tgtF]; done) | (simp_all [opndF, atomF, objF, parF, bor, band, regF, tgtF]; done)
     ·refine sk (sq (rg [] rfl ?_))
      refine WP.ret ?_
      change Fin ..
      refine finI hT (by rfl) ?_
      first | (simp_all [opndF, regF, tgtF]; done) | (simp_all [opndF, atomF, objF, regF, tgtF]; done) | (simp_all [opndF, atomF, objF, parF, bor, band, regF, tgtF]; done)
    ·refine sq (rg [] rfl ?_)
     refine cd rfl (fun h13 => ?_) (fun h13 => ?_)
     ·refine sq (rgs [CG.pure (.bool (withinB n p.vars.length))] rfl ?_ ?_)
      ·have hw := rwithin_ac n p.vars.length
       simp [holdsC, under, CG.pure]
       exact hw
      refine cd rfl (fun h14 => ?_) (fun h14 => ?_)
      ·refine sq (rg [] rfl ?_)
       refine WP.ret ?_
       change Fin ..
       refine finI hT (by rfl) ?_
       first | (simp_all [opndF, regF, tgtF]; done) | (simp_all [opndF, atomF, objF, regF, tgtF]; done) | (simp_all [opndF, atomF, objF, parF, bor, band, regF, tgtF]; done)
      ·refine sk (sq (rg [] rfl ?_))
       refine WP.ret ?_
       change Fin ..
       refine finI hT (by rfl) ?_
       first | (simp_all [opndF, regF, tgtF]; done) | (simp_all [opndF, atomF, objF, regF, tgtF]; done) | (simp_all [opndF, atomF, objF, parF, bor, band, regF, tgtF]; done)
     ·refine sq (rg [] rfl ?_)
      refine cd rfl (fun h16 => ?_) (fun h16 => ?_)
      ·refine sq (sq (rgs [CG.pure (.bool (withinB n p.vars.length))] rfl ?_ ?_))
       ·have hw := rwithin_ac n p.vars.length
        simp [holdsC, under, CG.pure]
        exact hw
       refine cd rfl (fun h17 => ?_) (fun h17 => ?_)
       ·refine sq (rg [] rfl ?_)
        refine WP.ret ?_
        change Fin ..
        refine finI hT (by rfl) ?_
        first | (simp_all [opndF, regF, tgtF]; done) | (simp_all [opndF, atomF, objF, regF, tgtF]; done) | (simp_all [opndF, atomF, objF, parF, bor, band, regF, tgtF]; done)
       ·have hv : 0 ≤ n ∧ n < p.vars.length := by
          have e : withinB n p.vars.length = true := by simpa using h17
          simpa [withinB] using e
        refine sk (sq (rgs [] rfl ?_ ?_))
        ·simp [holdsC, under]; omega
        refine cd rfl (fun h19 => ?_) (fun h19 => ?_)
        ·refine sq (rg [] rfl ?_)
         refine WP.ret ?_
         change Fin ..
         refine finI hT (by rfl) ?_
         first | (simp_all [opndF, regF, tgtF]; done) | (simp_all [opndF, atomF, objF, regF, tgtF]; done) | (simp_all [opndF, atomF, objF, parF, bor, band, regF, tgtF]; done)
        ·refine sk (sq (rg [] rfl ?_))
         refine WP.ret ?_
         change Fin ..
         refine finI hT (by rfl) ?_
         first | (simp_all [opndF, regF, tgtF]; done) | (simp_all [opndF, atomF, objF, regF, tgtF]; done) | (simp_all [opndF, atomF, objF, parF, bor, band, regF, tgtF]; done)
      ·refine sq (rg [] rfl ?_)
       refine cd rfl (fun h21 => ?_) (fun h21 => ?_)
       ·refine sq (rgs [CG.pure (.bool (withinB n p.locks))] rfl ?_ ?_)
        ·have hw := rwithin_ac n p.locks
         simp [holdsC, under, CG.pure]
         exact hw
        refine cd rfl (fun h22 => ?_) (fun h22 => ?_)
        ·refine sq (rg [] rfl ?_)
         refine WP.ret ?_
         change Fin ..
         refine finI hT (by rfl) ?_
         first | (simp_all [opndF, regF, tgtF]; done) | (simp_all [opndF, atomF, objF, regF, tgtF]; done) | (simp_all [opndF, atomF, objF, parF, bor, band, regF, tgtF]; done)
        ·refine sk (sq (rg [] rfl ?_))
         refine WP.ret ?_
         change Fin ..
         refine finI hT (by rfl) ?_
         first | (simp_all [opndF, regF, tgtF]; done) | (simp_all [opndF, atomF, objF, regF, tgtF]; done) | (simp_all [opndF, atomF, objF, parF, bor, band, regF, tgtF]; done)
       ·refine sq (rg [] rfl ?_)
        refine cd rfl (fun h24 => ?_) (fun h24 => ?_)
        ·refine sq (rgs [CG.pure (.bool (withinB n p.chans.length))] rfl ?_ ?_)
         ·have hw := rwithin_ac n p.chans.length
          simp [holdsC, under, CG.pure]
          exact hw
         refine cd rfl (fun h25 => ?_) (fun h25 => ?_)
         ·refine sq (rg [] rfl ?_)
          refine WP.ret ?_
          change Fin ..
          refine finI hT (by rfl) ?_
          first | (simp_all [opndF, regF, tgtF]; done) | (simp_all [opndF, atomF, objF, regF, tgtF]; done) | (simp_all [opndF, atomF, objF, parF, bor, band, regF, tgtF]; done)
         ·refine sk (sq (rg [] rfl ?_))
          refine WP.ret ?_
          change Fin ..
          refine finI hT (by rfl) ?_
          first | (simp_all [opndF, regF, tgtF]; done) | (simp_all [opndF, atomF, objF, regF, tgtF]; done) | (simp_all [opndF, atomF, objF, parF, bor, band, regF, tgtF]; done)
        ·refine sq (rg [] rfl ?_)
         refine cd rfl (fun h27 => ?_) (fun h27 => ?_)
         ·refine sq (rgs [CG.pure (.bool (withinB n f.sels.length))] rfl ?_ ?_)
          ·have hw := rwithin_ac n f.sels.length
           simp [holdsC, under, CG.pure]
           exact hw
          refine cd rfl (fun h28 => ?_) (fun h28 => ?_)
          ·refine sq (rg [] rfl ?_)
           refine WP.ret ?_
           change Fin ..
           refine finI hT (by rfl) ?_
           first | (simp_all [opndF, regF, tgtF]; done) | (simp_all [opndF, atomF, objF, regF, tgtF]; done) | (simp_all [opndF, atomF, objF, parF, bor, band, regF, tgtF]; done)
          ·refine sk (sq (rg [] rfl ?_))
           refine WP.ret ?_
           change Fin ..
           refine finI hT (by rfl) ?_
           first | (simp_all [opndF, regF, tgtF]; done) | (simp_all [opndF, atomF, objF, regF, tgtF]; done) | (simp_all [opndF, atomF, objF, parF, bor, band, regF, tgtF]; done)
         ·refine sq (rg [] rfl ?_)
          refine cd rfl (fun h30 => ?_) (fun h30 => ?_)
          ·refine sq (rgs [CG.pure (.bool (withinB n p.funcs.length))] rfl ?_ ?_)
           ·have hw := rwithin_ac n p.funcs.length
            simp [holdsC, under, CG.pure]
            exact hw
           refine cd rfl (fun h31 => ?_) (fun h31 => ?_)
           ·refine sq (rg [] rfl ?_)
            refine WP.ret ?_
            change Fin ..
            refine finI hT (by rfl) ?_
            first | (simp_all [opndF, regF, tgtF]; done) | (simp_all [opndF, atomF, objF, regF, tgtF]; done) | (simp_all [opndF, atomF, objF, parF, bor, band, regF, tgtF]; done)
           ·refine sk (sq (rg [] rfl ?_))
            refine WP.ret ?_
            change Fin ..
            refine finI hT (by rfl) ?_
            first | (simp_all [opndF, regF, tgtF]; done) | (simp_all [opndF, atomF, objF, regF, tgtF]; done) | (simp_all [opndF, atomF, objF, parF, bor, band, regF, tgtF]; done)
          ·refine sq (rg [] rfl ?_)
           refine cd rfl (fun h33 => ?_) (fun h33 => ?_)
           ·refine sq (rgs [CG.pure (.bool (withinB n f.code.length))] rfl ?_ ?_)
            ·have hw := rwithin_ac n f.code.length
             simp [holdsC, under, CG.pure]
             exact hw
            refine cd rfl (fun h34 => ?_) (fun h34 => ?_)
            ·refine sq (rg [] rfl ?_)
             refine WP.ret ?_
             change Fin ..
             refine finI hT (by rfl) ?_
             first | (simp_all [opndF, regF, tgtF]; done) | (simp_all [opndF, atomF, objF, regF, tgtF]; done) | (simp_all [opndF, atomF, objF, parF, bor, band, regF, tgtF]; done)
            ·refine sk (sq (rg [] rfl ?_))
             refine WP.ret ?_
             change Fin ..
             refine finI hT (by rfl) ?_
             first | (simp_all [opndF, regF, tgtF]; done) | (simp_all [opndF, atomF, objF, regF, tgtF]; done) | (simp_all [opndF, atomF, objF, parF, bor, band, regF, tgtF]; done)
           ·refine sk (sq (rg [] rfl ?_))
            refine WP.ret ?_
            change Fin ..
            refine finI hT (by rfl) ?_
            first | (simp_all [opndF, regF, tgtF]; done) | (simp_all [opndF, atomF, objF, regF, tgtF]; done) | (simp_all [opndF, atomF, objF, parF, bor, band, regF, tgtF]; done)
end Go.Ab


/- What operands an operation has; what is wrong with an instruction. -/
set_option autoImplicit false
set_option maxRecDepth 20000
set_option maxHeartbeats 4000000
set_option linter.unusedSimpArgs false
set_option linter.unusedVariables false
namespace Go.Ab
open Go.Proofs
theorem finS {P : Program} {T : Nat → TI} {N nt : Nat} (hT : TOK P T N) {t : Nat → Option (D × AV)} {m : Id → Option Ob} {k : Nat} {b r : ByteArray} (h : t k = some (.always, .v (.string b))) (e : b = r) : Fin T N nt 0 [.tmp k] (.v (.string r)) [] ⟨t, m⟩ := by
  subst e
  refine ⟨[(k, .v (.string b))], Ent.mk hT [] trivial ⟨⟨rfl, _, h, conv_eq rfl⟩, trivial⟩ trivial rfl, ([.v (.string b)], none), ?_, trivial, rfl⟩
  simp [resL, mkSt, lookN, notTup]
def formL (op : Int) : List UInt8 :=
  if 1 ≤ op ∧ op ≤ 15 then [114, 114, 45, 45] else if 16 ≤ op ∧ op ≤ 36 then [114, 114, 114, 45] else
  if op = 40 ∨ op = 44 ∨ op = 65 then [114, 45, 45, 110] else if op = 41 then [114, 114, 45, 45] else if op = 42 then [116, 45, 45, 45] else
  if op = 43 then [114, 116, 45, 45] else if op = 45 ∨ op = 64 then [45, 45, 45, 45] else if op = 50 then [114, 118, 45, 45] else
  if op = 51 then [118, 114, 45, 45] else if op = 52 then [111, 97, 114, 45] else if op = 53 then [114, 97, 114, 119] else
  if op = 54 then [97, 114, 45, 45] else if op = 55 ∨ op = 56 then [108, 45, 45, 45] else if op = 57 then [114, 108, 45, 45] else
  if op = 58 then [99, 114, 45, 45] else if op = 59 then [111, 99, 111, 45] else if op = 60 then [99, 45, 45, 45] else
  if op = 61 then [115, 45, 45, 45] else if op = 62 then [111, 102, 112, 45] else if op = 63 then [114, 45, 45, 45] else []
def formB (op : Int) : ByteArray := ⟨(formL op).toArray⟩
theorem formB_eq {op : Int} {l : List UInt8} (h : formL op = l) : (⟨l.toArray⟩ : ByteArray) = formB op := by rw [formB, h]
theorem form_ac (op : Int) : AC Tryz.prog T tysN 215 [.int op] [] (.v (.string (formB op))) [] := by
 refine AC_intro hT Tryz.func215 rfl rfl (Nat.le_of_ble_eq_true rfl) ?_
 refine sq (rg [] rfl ?_)
 refine sq (bk (sq (rg [] rfl ?_)))
 refine cd rfl (fun h1 => ?_) (fun h1 => ?_)
 ·refine sq (rg [] rfl ?_)
  refine WP.ret ?_
  change Fin ..
  refine finS hT (by rfl) (formB_eq ?_)
  simp only [band, Bool.and_eq_true, Bool.and_eq_false_iff, decide_eq_true_eq, decide_eq_false_iff_not, beq_iff_eq, beq_eq_false_iff_ne] at *
  unfold formL
  all_goals (repeat (first | rfl | (rw [if_neg (by omega)]) | (rw [if_pos (by omega)])))
 ·refine sq (rg [] rfl ?_)
  refine cd rfl (fun h3 => ?_) (fun h3 => ?_)
  ·refine sq (rg [] rfl ?_)
   refine WP.ret ?_
   change Fin ..
   refine finS hT (by rfl) (formB_eq ?_)
   simp only [band, Bool.and_eq_true, Bool.and_eq_false_iff, decide_eq_true_eq, decide_eq_false_iff_not, beq_iff_eq, beq_eq_false_iff_ne] at *
   unfold formL
   all_goals (repeat (first | rfl | (rw [if_neg (by omega)]) | (rw [if_pos (by omega)])))
  ·refine sk (sq (sq (rg [] rfl ?_)))
   refine bk (sq (sq (rg [] rfl ?_)))
   refine cd rfl (fun h6 => ?_) (fun h6 => ?_)
   ·refine sk ?_
    refine cd rfl (fun h6 => ?_) (fun h6 => ?_)
    ·refine sq (rg [] rfl ?_)
     refine WP.ret ?_
     change Fin ..
     refine finS hT (by rfl) (formB_eq ?_)
     simp only [band, Bool.and_eq_true, Bool.and_eq_false_iff, decide_eq_true_eq, decide_eq_false_iff_not, beq_iff_eq, beq_eq_false_iff_ne] at *
     unfold formL
     all_goals (repeat (first | rfl | (rw [if_neg (by omega)]) | (rw [if_pos (by omega)])))
    ·simp_all
   ·refine sq (rg [] rfl ?_)
    refine cd rfl (fun h7 => ?_) (fun h7 => ?_)
    ·refine sk ?_
     refine cd rfl (fun h7 => ?_) (fun h7 => ?_)
     ·refine sq (rg [] rfl ?_)
      refine WP.ret ?_
      change Fin ..
      refine finS hT (by rfl) (formB_eq ?_)
      simp only [band, Bool.and_eq_true, Bool.and_eq_false_iff, decide_eq_true_eq, decide_eq_false_iff_not, beq_iff_eq, beq_eq_false_iff_ne] at *
      unfold formL
      all_goals (repeat (first | rfl | (rw [if_neg (by omega)]) | (rw [if_pos (by omega)])))
     ·simp_all
    ·refine rg [] rfl ?_
     refine cd rfl (fun h8 => ?_) (fun h8 => ?_)
     ·refine sq (rg [] rfl ?_)
      refine WP.ret ?_
      change Fin ..
      refine finS hT (by rfl) (formB_eq ?_)
      simp only [band, Bool.and_eq_true, Bool.and_eq_false_iff, decide_eq_true_eq, decide_eq_false_iff_not, beq_iff_eq, beq_eq_false_iff_ne] at *
      unfold formL
      all_goals (repeat (first | rfl | (rw [if_neg (by omega)]) | (rw [if_pos (by omega)])))
     ·refine sq (rg [] rfl ?_)
      refine cd rfl (fun h10 => ?_) (fun h10 => ?_)
      ·refine sq (rg [] rfl ?_)
       refine WP.ret ?_
       change Fin ..
       refine finS hT (by rfl) (formB_eq ?_)
       simp only [band, Bool.and_eq_true, Bool.and_eq_false_iff, decide_eq_true_eq, decide_eq_false_iff_not, beq_iff_eq, beq_eq_false_iff_ne] at *
       unfold formL
       all_goals (repeat (first | rfl | (rw [if_neg (by omega)]) | (rw [if_pos (by omega)])))
      ·refine sq (rg [] rfl ?_)
       refine cd rfl (fun h12 => ?_) (fun h12 => ?_)
       ·refine sq (rg [] rfl ?_)
        refine WP.ret ?_
        change Fin ..
        refine finS hT (by rfl) (formB_eq ?_)
        simp only [band, Bool.and_eq_true, Bool.and_eq_false_iff, decide_eq_true_eq, decide_eq_false_iff_not, beq_iff_eq, beq_eq_false_iff_ne] at *
        unfold formL
        all_goals (repeat (first | rfl | (rw [if_neg (by omega)]) | (rw [if_pos (by omega)])))
       ·refine sq (rg [] rfl ?_)
        refine cd rfl (fun h14 => ?_) (fun h14 => ?_)
        ·refine sq (rg [] rfl ?_)
         refine WP.ret ?_
         change Fin ..
         refine finS hT (by rfl) (formB_eq ?_)
         simp only [band, Bool.and_eq_true, Bool.and_eq_false_iff, decide_eq_true_eq, decide_eq_false_iff_not, beq_iff_eq, beq_eq_false_iff_ne] at *
         unfold formL
         all_goals (repeat (first | rfl | (rw [if_neg (by omega)]) | (rw [if_pos (by omega)])))
        ·refine sq (sq (rg [] rfl ?_))
         refine cd rfl (fun h16 => ?_) (fun h16 => ?_)
         ·refine sk ?_
          refine cd rfl (fun h16 => ?_) (fun h16 => ?_)
          ·refine sq (rg [] rfl ?_)
           refine WP.ret ?_
           change Fin ..
           refine finS hT (by rfl) (formB_eq ?_)
           simp only [band, Bool.and_eq_true, Bool.and_eq_false_iff, decide_eq_true_eq, decide_eq_false_iff_not, beq_iff_eq, beq_eq_false_iff_ne] at *
           unfold formL
           all_goals (repeat (first | rfl | (rw [if_neg (by omega)]) | (rw [if_pos (by omega)])))
          ·simp_all
         ·refine rg [] rfl ?_
          refine cd rfl (fun h17 => ?_) (fun h17 => ?_)
          ·refine sq (rg [] rfl ?_)
           refine WP.ret ?_
           change Fin ..
           refine finS hT (by rfl) (formB_eq ?_)
           simp only [band, Bool.and_eq_true, Bool.and_eq_false_iff, decide_eq_true_eq, decide_eq_false_iff_not, beq_iff_eq, beq_eq_false_iff_ne] at *
           unfold formL
           all_goals (repeat (first | rfl | (rw [if_neg (by omega)]) | (rw [if_pos (by omega)])))
          ·refine sq (rg [] rfl ?_)
           refine cd rfl (fun h19 => ?_) (fun h19 => ?_)
           ·refine sq (rg [] rfl ?_)
            refine WP.ret ?_
            change Fin ..
            refine finS hT (by rfl) (formB_eq ?_)
            simp only [band, Bool.and_eq_true, Bool.and_eq_false_iff, decide_eq_true_eq, decide_eq_false_iff_not, beq_iff_eq, beq_eq_false_iff_ne] at *
            unfold formL
            all_goals (repeat (first | rfl | (rw [if_neg (by omega)]) | (rw [if_pos (by omega)])))
           ·refine sq (rg [] rfl ?_)
            refine cd rfl (fun h21 => ?_) (fun h21 => ?_)
            ·refine sq (rg [] rfl ?_)
             refine WP.ret ?_
             change Fin ..
             refine finS hT (by rfl) (formB_eq ?_)
             simp only [band, Bool.and_eq_true, Bool.and_eq_false_iff, decide_eq_true_eq, decide_eq_false_iff_not, beq_iff_eq, beq_eq_false_iff_ne] at *
             unfold formL
             all_goals (repeat (first | rfl | (rw [if_neg (by omega)]) | (rw [if_pos (by omega)])))
            ·refine sq (rg [] rfl ?_)
             refine cd rfl (fun h23 => ?_) (fun h23 => ?_)
             ·refine sq (rg [] rfl ?_)
              refine WP.ret ?_
              change Fin ..
              refine finS hT (by rfl) (formB_eq ?_)
              simp only [band, Bool.and_eq_true, Bool.and_eq_false_iff, decide_eq_true_eq, decide_eq_false_iff_not, beq_iff_eq, beq_eq_false_iff_ne] at *
              unfold formL
              all_goals (repeat (first | rfl | (rw [if_neg (by omega)]) | (rw [if_pos (by omega)])))
             ·refine sq (rg [] rfl ?_)
              refine cd rfl (fun h25 => ?_) (fun h25 => ?_)
              ·refine sq (rg [] rfl ?_)
               refine WP.ret ?_
               change Fin ..
               refine finS hT (by rfl) (formB_eq ?_)
               simp only [band, Bool.and_eq_true, Bool.and_eq_false_iff, decide_eq_true_eq, decide_eq_false_iff_not, beq_iff_eq, beq_eq_false_iff_ne] at *
               unfold formL
               all_goals (repeat (first | rfl | (rw [if_neg (by omega)]) | (rw [if_pos (by omega)])))
              ·refine sq (rg [] rfl ?_)
               refine cd rfl (fun h27 => ?_) (fun h27 => ?_)
               ·refine sq (rg [] rfl ?_)
                refine WP.ret ?_
                change Fin ..
                refine finS hT (by rfl) (formB_eq ?_)
                simp only [band, Bool.and_eq_true, Bool.and_eq_false_iff, decide_eq_true_eq, decide_eq_false_iff_not, beq_iff_eq, beq_eq_false_iff_ne] at *
                unfold formL
                all_goals (repeat (first | rfl | (rw [if_neg (by omega)]) | (rw [if_pos (by omega)])))
               ·refine sq (sq (rg [] rfl ?_))
                refine cd rfl (fun h29 => ?_) (fun h29 => ?_)
                ·refine sk ?_
                 refine cd rfl (fun h29 => ?_) (fun h29 => ?_)
                 ·refine sq (rg [] rfl ?_)
                  refine WP.ret ?_
                  change Fin ..
                  refine finS hT (by rfl) (formB_eq ?_)
                  simp only [band, Bool.and_eq_true, Bool.and_eq_false_iff, decide_eq_true_eq, decide_eq_false_iff_not, beq_iff_eq, beq_eq_false_iff_ne] at *
                  unfold formL
                  all_goals (repeat (first | rfl | (rw [if_neg (by omega)]) | (rw [if_pos (by omega)])))
                 ·simp_all
                ·refine rg [] rfl ?_
                 refine cd rfl (fun h30 => ?_) (fun h30 => ?_)
                 ·refine sq (rg [] rfl ?_)
                  refine WP.ret ?_
                  change Fin ..
                  refine finS hT (by rfl) (formB_eq ?_)
                  simp only [band, Bool.and_eq_true, Bool.and_eq_false_iff, decide_eq_true_eq, decide_eq_false_iff_not, beq_iff_eq, beq_eq_false_iff_ne] at *
                  unfold formL
                  all_goals (repeat (first | rfl | (rw [if_neg (by omega)]) | (rw [if_pos (by omega)])))
                 ·refine sq (rg [] rfl ?_)
                  refine cd rfl (fun h32 => ?_) (fun h32 => ?_)
                  ·refine sq (rg [] rfl ?_)
                   refine WP.ret ?_
                   change Fin ..
                   refine finS hT (by rfl) (formB_eq ?_)
                   simp only [band, Bool.and_eq_true, Bool.and_eq_false_iff, decide_eq_true_eq, decide_eq_false_iff_not, beq_iff_eq, beq_eq_false_iff_ne] at *
                   unfold formL
                   all_goals (repeat (first | rfl | (rw [if_neg (by omega)]) | (rw [if_pos (by omega)])))
                  ·refine sq (rg [] rfl ?_)
                   refine cd rfl (fun h34 => ?_) (fun h34 => ?_)
                   ·refine sq (rg [] rfl ?_)
                    refine WP.ret ?_
                    change Fin ..
                    refine finS hT (by rfl) (formB_eq ?_)
                    simp only [band, Bool.and_eq_true, Bool.and_eq_false_iff, decide_eq_true_eq, decide_eq_false_iff_not, beq_iff_eq, beq_eq_false_iff_ne] at *
                    unfold formL
                    all_goals (repeat (first | rfl | (rw [if_neg (by omega)]) | (rw [if_pos (by omega)])))
                   ·refine sq (rg [] rfl ?_)
                    refine cd rfl (fun h36 => ?_) (fun h36 => ?_)
                    ·refine sq (rg [] rfl ?_)
                     refine WP.ret ?_
                     change Fin ..
                     refine finS hT (by rfl) (formB_eq ?_)
                     simp only [band, Bool.and_eq_true, Bool.and_eq_false_iff, decide_eq_true_eq, decide_eq_false_iff_not, beq_iff_eq, beq_eq_false_iff_ne] at *
                     unfold formL
                     all_goals (repeat (first | rfl | (rw [if_neg (by omega)]) | (rw [if_pos (by omega)])))
                    ·refine sq (rg [] rfl ?_)
                     refine cd rfl (fun h38 => ?_) (fun h38 => ?_)
                     ·refine sq (rg [] rfl ?_)
                      refine WP.ret ?_
                      change Fin ..
                      refine finS hT (by rfl) (formB_eq ?_)
                      simp only [band, Bool.and_eq_true, Bool.and_eq_false_iff, decide_eq_true_eq, decide_eq_false_iff_not, beq_iff_eq, beq_eq_false_iff_ne] at *
                      unfold formL
                      all_goals (repeat (first | rfl | (rw [if_neg (by omega)]) | (rw [if_pos (by omega)])))
                     ·refine sq (rg [] rfl ?_)
                      refine cd rfl (fun h40 => ?_) (fun h40 => ?_)
                      ·refine sq (rg [] rfl ?_)
                       refine WP.ret ?_
                       change Fin ..
                       refine finS hT (by rfl) (formB_eq ?_)
                       simp only [band, Bool.and_eq_true, Bool.and_eq_false_iff, decide_eq_true_eq, decide_eq_false_iff_not, beq_iff_eq, beq_eq_false_iff_ne] at *
                       unfold formL
                       all_goals (repeat (first | rfl | (rw [if_neg (by omega)]) | (rw [if_pos (by omega)])))
                      ·refine sq (rg [] rfl ?_)
                       refine cd rfl (fun h42 => ?_) (fun h42 => ?_)
                       ·refine sq (rg [] rfl ?_)
                        refine WP.ret ?_
                        change Fin ..
                        refine finS hT (by rfl) (formB_eq ?_)
                        simp only [band, Bool.and_eq_true, Bool.and_eq_false_iff, decide_eq_true_eq, decide_eq_false_iff_not, beq_iff_eq, beq_eq_false_iff_ne] at *
                        unfold formL
                        all_goals (repeat (first | rfl | (rw [if_neg (by omega)]) | (rw [if_pos (by omega)])))
                       ·refine sq (rg [] rfl ?_)
                        refine cd rfl (fun h44 => ?_) (fun h44 => ?_)
                        ·refine sq (rg [] rfl ?_)
                         refine WP.ret ?_
                         change Fin ..
                         refine finS hT (by rfl) (formB_eq ?_)
                         simp only [band, Bool.and_eq_true, Bool.and_eq_false_iff, decide_eq_true_eq, decide_eq_false_iff_not, beq_iff_eq, beq_eq_false_iff_ne] at *
                         unfold formL
                         all_goals (repeat (first | rfl | (rw [if_neg (by omega)]) | (rw [if_pos (by omega)])))
                        ·refine sk (sq (rg [] rfl ?_))
                         refine WP.ret ?_
                         change Fin ..
                         refine finS hT (by rfl) (formB_eq ?_)
                         simp only [band, Bool.and_eq_true, Bool.and_eq_false_iff, decide_eq_true_eq, decide_eq_false_iff_not, beq_iff_eq, beq_eq_false_iff_ne] at *
                         unfold formL
                         all_goals (repeat (first | rfl | (rw [if_neg (by omega)]) | (rw [if_pos (by omega)])))
theorem rform_ac (op : Int) : AC Tryz.prog T tysN 152 [.int op] [] (.v (.string (formB op))) [] := by
 refine AC_intro hT Tryz.func152 rfl rfl (Nat.le_of_ble_eq_true rfl) ?_
 refine sq (rg [] rfl ?_)
 refine sq (sq (rg [] rfl ?_))
 refine cd rfl (fun h1 => ?_) (fun h1 => ?_)
 ·refine sq (rg [] rfl ?_)
  refine WP.ret ?_
  change Fin ..
  refine finS hT (by rfl) (formB_eq ?_)
  simp only [band, Bool.and_eq_true, Bool.and_eq_false_iff, decide_eq_true_eq, decide_eq_false_iff_not, beq_iff_eq, beq_eq_false_iff_ne] at *
  unfold formL
  all_goals (repeat (first | rfl | (rw [if_neg (by omega)]) | (rw [if_pos (by omega)])))
 ·refine sk (sq (sq (rg [] rfl ?_)))
  refine cd rfl (fun h3 => ?_) (fun h3 => ?_)
  ·refine sq (rg [] rfl ?_)
   refine WP.ret ?_
   change Fin ..
   refine finS hT (by rfl) (formB_eq ?_)
   simp only [band, Bool.and_eq_true, Bool.and_eq_false_iff, decide_eq_true_eq, decide_eq_false_iff_not, beq_iff_eq, beq_eq_false_iff_ne] at *
   unfold formL
   all_goals (repeat (first | rfl | (rw [if_neg (by omega)]) | (rw [if_pos (by omega)])))
  ·refine sk (sq (sq (rg [] rfl ?_)))
   refine bk (sq (rg [] rfl ?_))
   refine cd rfl (fun h6 => ?_) (fun h6 => ?_)
   ·refine sq (rg [] rfl ?_)
    refine WP.ret ?_
    change Fin ..
    refine finS hT (by rfl) (formB_eq ?_)
    simp only [band, Bool.and_eq_true, Bool.and_eq_false_iff, decide_eq_true_eq, decide_eq_false_iff_not, beq_iff_eq, beq_eq_false_iff_ne] at *
    unfold formL
    all_goals (repeat (first | rfl | (rw [if_neg (by omega)]) | (rw [if_pos (by omega)])))
   ·refine sq (rg [] rfl ?_)
    refine cd rfl (fun h8 => ?_) (fun h8 => ?_)
    ·refine sq (rg [] rfl ?_)
     refine WP.ret ?_
     change Fin ..
     refine finS hT (by rfl) (formB_eq ?_)
     simp only [band, Bool.and_eq_true, Bool.and_eq_false_iff, decide_eq_true_eq, decide_eq_false_iff_not, beq_iff_eq, beq_eq_false_iff_ne] at *
     unfold formL
     all_goals (repeat (first | rfl | (rw [if_neg (by omega)]) | (rw [if_pos (by omega)])))
    ·refine sq (rg [] rfl ?_)
     refine cd rfl (fun h10 => ?_) (fun h10 => ?_)
     ·refine sq (rg [] rfl ?_)
      refine WP.ret ?_
      change Fin ..
      refine finS hT (by rfl) (formB_eq ?_)
      simp only [band, Bool.and_eq_true, Bool.and_eq_false_iff, decide_eq_true_eq, decide_eq_false_iff_not, beq_iff_eq, beq_eq_false_iff_ne] at *
      unfold formL
      all_goals (repeat (first | rfl | (rw [if_neg (by omega)]) | (rw [if_pos (by omega)])))
     ·refine sq (rg [] rfl ?_)
      refine cd rfl (fun h12 => ?_) (fun h12 => ?_)
      ·refine sq (rg [] rfl ?_)
       refine WP.ret ?_
       change Fin ..
       refine finS hT (by rfl) (formB_eq ?_)
       simp only [band, Bool.and_eq_true, Bool.and_eq_false_iff, decide_eq_true_eq, decide_eq_false_iff_not, beq_iff_eq, beq_eq_false_iff_ne] at *
       unfold formL
       all_goals (repeat (first | rfl | (rw [if_neg (by omega)]) | (rw [if_pos (by omega)])))
      ·refine sq (rg [] rfl ?_)
       refine cd rfl (fun h14 => ?_) (fun h14 => ?_)
       ·refine sq (rg [] rfl ?_)
        refine WP.ret ?_
        change Fin ..
        refine finS hT (by rfl) (formB_eq ?_)
        simp only [band, Bool.and_eq_true, Bool.and_eq_false_iff, decide_eq_true_eq, decide_eq_false_iff_not, beq_iff_eq, beq_eq_false_iff_ne] at *
        unfold formL
        all_goals (repeat (first | rfl | (rw [if_neg (by omega)]) | (rw [if_pos (by omega)])))
       ·refine sq (rg [] rfl ?_)
        refine cd rfl (fun h16 => ?_) (fun h16 => ?_)
        ·refine sq (rg [] rfl ?_)
         refine WP.ret ?_
         change Fin ..
         refine finS hT (by rfl) (formB_eq ?_)
         simp only [band, Bool.and_eq_true, Bool.and_eq_false_iff, decide_eq_true_eq, decide_eq_false_iff_not, beq_iff_eq, beq_eq_false_iff_ne] at *
         unfold formL
         all_goals (repeat (first | rfl | (rw [if_neg (by omega)]) | (rw [if_pos (by omega)])))
        ·refine sq (rg [] rfl ?_)
         refine cd rfl (fun h18 => ?_) (fun h18 => ?_)
         ·refine sq (rg [] rfl ?_)
          refine WP.ret ?_
          change Fin ..
          refine finS hT (by rfl) (formB_eq ?_)
          simp only [band, Bool.and_eq_true, Bool.and_eq_false_iff, decide_eq_true_eq, decide_eq_false_iff_not, beq_iff_eq, beq_eq_false_iff_ne] at *
          unfold formL
          all_goals (repeat (first | rfl | (rw [if_neg (by omega)]) | (rw [if_pos (by omega)])))
         ·refine sq (rg [] rfl ?_)
          refine cd rfl (fun h20 => ?_) (fun h20 => ?_)
          ·refine sq (rg [] rfl ?_)
           refine WP.ret ?_
           change Fin ..
           refine finS hT (by rfl) (formB_eq ?_)
           simp only [band, Bool.and_eq_true, Bool.and_eq_false_iff, decide_eq_true_eq, decide_eq_false_iff_not, beq_iff_eq, beq_eq_false_iff_ne] at *
           unfold formL
           all_goals (repeat (first | rfl | (rw [if_neg (by omega)]) | (rw [if_pos (by omega)])))
          ·refine sq (rg [] rfl ?_)
           refine cd rfl (fun h22 => ?_) (fun h22 => ?_)
           ·refine sq (rg [] rfl ?_)
            refine WP.ret ?_
            change Fin ..
            refine finS hT (by rfl) (formB_eq ?_)
            simp only [band, Bool.and_eq_true, Bool.and_eq_false_iff, decide_eq_true_eq, decide_eq_false_iff_not, beq_iff_eq, beq_eq_false_iff_ne] at *
            unfold formL
            all_goals (repeat (first | rfl | (rw [if_neg (by omega)]) | (rw [if_pos (by omega)])))
           ·refine sq (rg [] rfl ?_)
            refine cd rfl (fun h24 => ?_) (fun h24 => ?_)
            ·refine sq (rg [] rfl ?_)
             refine WP.ret ?_
             change Fin ..
             refine finS hT (by rfl) (formB_eq ?_)
             simp only [band, Bool.and_eq_true, Bool.and_eq_false_iff, decide_eq_true_eq, decide_eq_false_iff_not, beq_iff_eq, beq_eq_false_iff_ne] at *
             unfold formL
             all_goals (repeat (first | rfl | (rw [if_neg (by omega)]) | (rw [if_pos (by omega)])))
            ·refine sq (rg [] rfl ?_)
             refine cd rfl (fun h26 => ?_) (fun h26 => ?_)
             ·refine sq (rg [] rfl ?_)
              refine WP.ret ?_
              change Fin ..
              refine finS hT (by rfl) (formB_eq ?_)
              simp only [band, Bool.and_eq_true, Bool.and_eq_false_iff, decide_eq_true_eq, decide_eq_false_iff_not, beq_iff_eq, beq_eq_false_iff_ne] at *
              unfold formL
              all_goals (repeat (first | rfl | (rw [if_neg (by omega)]) | (rw [if_pos (by omega)])))
             ·refine sq (sq (rg [] rfl ?_))
              refine cd rfl (fun h28 => ?_) (fun h28 => ?_)
              ·refine sk ?_
               refine cd rfl (fun h28 => ?_) (fun h28 => ?_)
               ·refine sq (rg [] rfl ?_)
                refine WP.ret ?_
                change Fin ..
                refine finS hT (by rfl) (formB_eq ?_)
                simp only [band, Bool.and_eq_true, Bool.and_eq_false_iff, decide_eq_true_eq, decide_eq_false_iff_not, beq_iff_eq, beq_eq_false_iff_ne] at *
                unfold formL
                all_goals (repeat (first | rfl | (rw [if_neg (by omega)]) | (rw [if_pos (by omega)])))
               ·simp_all
              ·refine rg [] rfl ?_
               refine cd rfl (fun h29 => ?_) (fun h29 => ?_)
               ·refine sq (rg [] rfl ?_)
                refine WP.ret ?_
                change Fin ..
                refine finS hT (by rfl) (formB_eq ?_)
                simp only [band, Bool.and_eq_true, Bool.and_eq_false_iff, decide_eq_true_eq, decide_eq_false_iff_not, beq_iff_eq, beq_eq_false_iff_ne] at *
                unfold formL
                all_goals (repeat (first | rfl | (rw [if_neg (by omega)]) | (rw [if_pos (by omega)])))
               ·refine sq (rg [] rfl ?_)
                refine cd rfl (fun h31 => ?_) (fun h31 => ?_)
                ·refine sq (rg [] rfl ?_)
                 refine WP.ret ?_
                 change Fin ..
                 refine finS hT (by rfl) (formB_eq ?_)
                 simp only [band, Bool.and_eq_true, Bool.and_eq_false_iff, decide_eq_true_eq, decide_eq_false_iff_not, beq_iff_eq, beq_eq_false_iff_ne] at *
                 unfold formL
                 all_goals (repeat (first | rfl | (rw [if_neg (by omega)]) | (rw [if_pos (by omega)])))
                ·refine sq (rg [] rfl ?_)
                 refine cd rfl (fun h33 => ?_) (fun h33 => ?_)
                 ·refine sq (rg [] rfl ?_)
                  refine WP.ret ?_
                  change Fin ..
                  refine finS hT (by rfl) (formB_eq ?_)
                  simp only [band, Bool.and_eq_true, Bool.and_eq_false_iff, decide_eq_true_eq, decide_eq_false_iff_not, beq_iff_eq, beq_eq_false_iff_ne] at *
                  unfold formL
                  all_goals (repeat (first | rfl | (rw [if_neg (by omega)]) | (rw [if_pos (by omega)])))
                 ·refine sq (rg [] rfl ?_)
                  refine cd rfl (fun h35 => ?_) (fun h35 => ?_)
                  ·refine sq (rg [] rfl ?_)
                   refine WP.ret ?_
                   change Fin ..
                   refine finS hT (by rfl) (formB_eq ?_)
                   simp only [band, Bool.and_eq_true, Bool.and_eq_false_iff, decide_eq_true_eq, decide_eq_false_iff_not, beq_iff_eq, beq_eq_false_iff_ne] at *
                   unfold formL
                   all_goals (repeat (first | rfl | (rw [if_neg (by omega)]) | (rw [if_pos (by omega)])))
                  ·refine sq (rg [] rfl ?_)
                   refine cd rfl (fun h37 => ?_) (fun h37 => ?_)
                   ·refine sq (rg [] rfl ?_)
                    refine WP.ret ?_
                    change Fin ..
                    refine finS hT (by rfl) (formB_eq ?_)
                    simp only [band, Bool.and_eq_true, Bool.and_eq_false_iff, decide_eq_true_eq, decide_eq_false_iff_not, beq_iff_eq, beq_eq_false_iff_ne] at *
                    unfold formL
                    all_goals (repeat (first | rfl | (rw [if_neg (by omega)]) | (rw [if_pos (by omega)])))
                   ·refine sq (rg [] rfl ?_)
                    refine cd rfl (fun h39 => ?_) (fun h39 => ?_)
                    ·refine sq (rg [] rfl ?_)
                     refine WP.ret ?_
                     change Fin ..
                     refine finS hT (by rfl) (formB_eq ?_)
                     simp only [band, Bool.and_eq_true, Bool.and_eq_false_iff, decide_eq_true_eq, decide_eq_false_iff_not, beq_iff_eq, beq_eq_false_iff_ne] at *
                     unfold formL
                     all_goals (repeat (first | rfl | (rw [if_neg (by omega)]) | (rw [if_pos (by omega)])))
                    ·refine sq (rg [] rfl ?_)
                     refine cd rfl (fun h41 => ?_) (fun h41 => ?_)
                     ·refine sq (rg [] rfl ?_)
                      refine WP.ret ?_
                      change Fin ..
                      refine finS hT (by rfl) (formB_eq ?_)
                      simp only [band, Bool.and_eq_true, Bool.and_eq_false_iff, decide_eq_true_eq, decide_eq_false_iff_not, beq_iff_eq, beq_eq_false_iff_ne] at *
                      unfold formL
                      all_goals (repeat (first | rfl | (rw [if_neg (by omega)]) | (rw [if_pos (by omega)])))
                     ·refine sq (rg [] rfl ?_)
                      refine cd rfl (fun h43 => ?_) (fun h43 => ?_)
                      ·refine sq (rg [] rfl ?_)
                       refine WP.ret ?_
                       change Fin ..
                       refine finS hT (by rfl) (formB_eq ?_)
                       simp only [band, Bool.and_eq_true, Bool.and_eq_false_iff, decide_eq_true_eq, decide_eq_false_iff_not, beq_iff_eq, beq_eq_false_iff_ne] at *
                       unfold formL
                       all_goals (repeat (first | rfl | (rw [if_neg (by omega)]) | (rw [if_pos (by omega)])))
                      ·refine sq (rg [] rfl ?_)
                       refine cd rfl (fun h45 => ?_) (fun h45 => ?_)
                       ·refine sq (rg [] rfl ?_)
                        refine WP.ret ?_
                        change Fin ..
                        refine finS hT (by rfl) (formB_eq ?_)
                        simp only [band, Bool.and_eq_true, Bool.and_eq_false_iff, decide_eq_true_eq, decide_eq_false_iff_not, beq_iff_eq, beq_eq_false_iff_ne] at *
                        unfold formL
                        all_goals (repeat (first | rfl | (rw [if_neg (by omega)]) | (rw [if_pos (by omega)])))
                       ·refine sq (rg [] rfl ?_)
                        refine cd rfl (fun h47 => ?_) (fun h47 => ?_)
                        ·refine sq (rg [] rfl ?_)
                         refine WP.ret ?_
                         change Fin ..
                         refine finS hT (by rfl) (formB_eq ?_)
                         simp only [band, Bool.and_eq_true, Bool.and_eq_false_iff, decide_eq_true_eq, decide_eq_false_iff_not, beq_iff_eq, beq_eq_false_iff_ne] at *
                         unfold formL
                         all_goals (repeat (first | rfl | (rw [if_neg (by omega)]) | (rw [if_pos (by omega)])))
                        ·refine sk (sq (rg [] rfl ?_))
                         refine WP.ret ?_
                         change Fin ..
                         refine finS hT (by rfl) (formB_eq ?_)
                         simp only [band, Bool.and_eq_true, Bool.and_eq_false_iff, decide_eq_true_eq, decide_eq_false_iff_not, beq_iff_eq, beq_eq_false_iff_ne] at *
                         unfold formL
                         all_goals (repeat (first | rfl | (rw [if_neg (by omega)]) | (rw [if_pos (by omega)])))
end Go.Ab


/- What is wrong with an instruction. -/
set_option autoImplicit false
set_option maxRecDepth 20000
set_option maxHeartbeats 4000000
set_option linter.unusedSimpArgs false
set_option linter.unusedVariables false
namespace Go.Ab
open Go.Proofs
def locB (op : Int) : Bool := (decide (op ≥ 1) && decide (op ≤ 36)) || (decide (op ≥ 40) && decide (op ≤ 45))
def visB (op : Int) : Bool := decide (op ≥ 50) && decide (op ≤ 65)
theorem rlocal_ac (op : Int) : AC Tryz.prog T tysN 145 [.int op] [] (.bool (locB op)) [] := by
 refine AC_intro hT Tryz.func145 rfl rfl (Nat.le_of_ble_eq_true rfl) ?_
 refine sq (rg [] rfl ?_)
 refine sq (rg [] rfl ?_)
 refine WP.ret ?_
 change Fin ..
 exact fin1 hT (by rfl) (by rw [band, band, bor]; rfl)
theorem rvisible_ac (op : Int) : AC Tryz.prog T tysN 151 [.int op] [] (.bool (visB op)) [] := by
 refine AC_intro hT Tryz.func151 rfl rfl (Nat.le_of_ble_eq_true rfl) ?_
 refine sq (rg [] rfl ?_)
 refine sq (rg [] rfl ?_)
 refine WP.ret ?_
 change Fin ..
 exact fin1 hT (by rfl) (by rw [band]; rfl)
def opL (x : PIns) : List Int := [x.a, x.b, x.c, x.n]
def opA (x : PIns) : AV := arrI 54 4 .i64 (opL x)
theorem form_ind {Q : List UInt8 → Prop} (op : Int) (h0 : 1 ≤ op ∧ op ≤ 15 → Q [114, 114, 45, 45]) (h1 : 16 ≤ op ∧ op ≤ 36 → Q [114, 114, 114, 45]) (h2 : op = 40 ∨ op = 44 ∨ op = 65 → Q [114, 45, 45, 110]) (h3 : op = 41 → Q [114, 114, 45, 45]) (h4 : op = 42 → Q [116, 45, 45, 45]) (h5 : op = 43 → Q [114, 116, 45, 45]) (h6 : op = 45 ∨ op = 64 → Q [45, 45, 45, 45]) (h7 : op = 50 → Q [114, 118, 45, 45]) (h8 : op = 51 → Q [118, 114, 45, 45]) (h9 : op = 52 → Q [111, 97, 114, 45]) (h10 : op = 53 → Q [114, 97, 114, 119]) (h11 : op = 54 → Q [97, 114, 45, 45]) (h12 : op = 55 ∨ op = 56 → Q [108, 45, 45, 45]) (h13 : op = 57 → Q [114, 108, 45, 45]) (h14 : op = 58 → Q [99, 114, 45, 45]) (h15 : op = 59 → Q [111, 99, 111, 45]) (h16 : op = 60 → Q [99, 45, 45, 45]) (h17 : op = 61 → Q [115, 45, 45, 45]) (h18 : op = 62 → Q [111, 102, 112, 45]) (h19 : op = 63 → Q [114, 45, 45, 45]) (hn : ¬ (1 ≤ op ∧ op ≤ 36) ∧ ¬ (40 ≤ op ∧ op ≤ 45) ∧ ¬ (50 ≤ op ∧ op ≤ 65) → Q []) : Q (formL op) := by
  unfold formL
  by_cases c0 : 1 ≤ op ∧ op ≤ 15
  · rw [if_pos c0]; exact h0 c0
  rw [if_neg c0]
  by_cases c1 : 16 ≤ op ∧ op ≤ 36
  · rw [if_pos c1]; exact h1 c1
  rw [if_neg c1]
  by_cases c2 : op = 40 ∨ op = 44 ∨ op = 65
  · rw [if_pos c2]; exact h2 c2
  rw [if_neg c2]
  by_cases c3 : op = 41
  · rw [if_pos c3]; exact h3 c3
  rw [if_neg c3]
  by_cases c4 : op = 42
  · rw [if_pos c4]; exact h4 c4
  rw [if_neg c4]
  by_cases c5 : op = 43
  · rw [if_pos c5]; exact h5 c5
  rw [if_neg c5]
  by_cases c6 : op = 45 ∨ op = 64
  · rw [if_pos c6]; exact h6 c6
  rw [if_neg c6]
  by_cases c7 : op = 50
  · rw [if_pos c7]; exact h7 c7
  rw [if_neg c7]
  by_cases c8 : op = 51
  · rw [if_pos c8]; exact h8 c8
  rw [if_neg c8]
  by_cases c9 : op = 52
  · rw [if_pos c9]; exact h9 c9
  rw [if_neg c9]
  by_cases c10 : op = 53
  · rw [if_pos c10]; exact h10 c10
  rw [if_neg c10]
  by_cases c11 : op = 54
  · rw [if_pos c11]; exact h11 c11
  rw [if_neg c11]
  by_cases c12 : op = 55 ∨ op = 56
  · rw [if_pos c12]; exact h12 c12
  rw [if_neg c12]
  by_cases c13 : op = 57
  · rw [if_pos c13]; exact h13 c13
  rw [if_neg c13]
  by_cases c14 : op = 58
  · rw [if_pos c14]; exact h14 c14
  rw [if_neg c14]
  by_cases c15 : op = 59
  · rw [if_pos c15]; exact h15 c15
  rw [if_neg c15]
  by_cases c16 : op = 60
  · rw [if_pos c16]; exact h16 c16
  rw [if_neg c16]
  by_cases c17 : op = 61
  · rw [if_pos c17]; exact h17 c17
  rw [if_neg c17]
  by_cases c18 : op = 62
  · rw [if_pos c18]; exact h18 c18
  rw [if_neg c18]
  by_cases c19 : op = 63
  · rw [if_pos c19]; exact h19 c19
  rw [if_neg c19]
  exact hn (by omega)
theorem opA_of (x : PIns) : (AV.agg 54 4 fun q => bif Nat.beq q 3 then .int x.n else bif Nat.beq q 2 then .int x.c else bif Nat.beq q 1 then .int x.b else bif Nat.beq q 0 then .int x.a else .int 0) = opA x := agg_ext (fun q => by match q with | 0 | 1 | 2 | 3 | q + 4 => rfl)
theorem form_none (op : Int) : (formL op = []) ↔ locB op = false ∧ visB op = false := by
  have hb : (locB op = false ∧ visB op = false) ↔ ¬ (1 ≤ op ∧ op ≤ 36) ∧ ¬ (40 ≤ op ∧ op ≤ 45) ∧ ¬ (50 ≤ op ∧ op ≤ 65) := by
    unfold locB visB
    simp only [Bool.or_eq_false_iff, Bool.and_eq_false_iff, decide_eq_false_iff_not]
    omega
  rw [hb]
  refine form_ind (Q := fun l => l = [] ↔ _) op ?_ ?_ ?_ ?_ ?_ ?_ ?_ ?_ ?_ ?_ ?_ ?_ ?_ ?_ ?_ ?_ ?_ ?_ ?_ ?_ ?_
  all_goals (intro h; constructor <;> intro k)
  all_goals (first | rfl | exact h | (exfalso; omega) | (exact absurd k (List.cons_ne_nil _ _)))
theorem form_len {op : Int} (h : formL op ≠ []) : (formL op).length = 4 := by
  revert h
  refine form_ind (Q := fun l => l ≠ [] → l.length = 4) op ?_ ?_ ?_ ?_ ?_ ?_ ?_ ?_ ?_ ?_ ?_ ?_ ?_ ?_ ?_ ?_ ?_ ?_ ?_ ?_ ?_
  all_goals (intro _ h; first | rfl | exact absurd rfl h)
def letF (op : Int) (k : Nat) : Int := byteAt (formB op) k
theorem let_at (op : Int) (k : Nat) : letF op k = (((formL op)[k]?.getD 0).toNat : Nat) := by
  unfold letF byteAt formB
  congr 2
  by_cases h : k < (formL op).length
  · have h1 : k < (⟨(formL op).toArray⟩ : ByteArray).size := by simpa [ByteArray.size] using h
    rw [getElem?_pos (⟨(formL op).toArray⟩ : ByteArray) k h1, getElem?_pos (formL op) k h]
    rfl
  · have h1 : ¬ k < (⟨(formL op).toArray⟩ : ByteArray).size := by simpa [ByteArray.size] using h
    rw [getElem?_neg (⟨(formL op).toArray⟩ : ByteArray) k h1, getElem?_neg (formL op) k h]
theorem let_par {op : Int} {k : Nat} (h : letF op k = 112) : k = 2 ∧ letF op 1 = 102 := by
  rw [let_at] at h ⊢
  revert h
  refine form_ind (Q := fun l => ((l[k]?.getD 0).toNat : Int) = 112 → k = 2 ∧ ((l[1]?.getD 0).toNat : Int) = 102) op ?_ ?_ ?_ ?_ ?_ ?_ ?_ ?_ ?_ ?_ ?_ ?_ ?_ ?_ ?_ ?_ ?_ ?_ ?_ ?_ ?_
  all_goals (intro _ h; match k, h with
    | 0, h | 1, h | 2, h | 3, h => first | exact ⟨rfl, rfl⟩ | (exact absurd h (by decide))
    | k + 4, h => exact absurd h (by simp))
def anyTo (p : Nat → Bool) : Nat → Bool
  | 0 => false
  | i + 1 => anyTo p i || p i
theorem anyTo_bad {p : Nat → Bool} {i : Nat} (h : p i = true) : ∀ {n : Nat}, i < n → anyTo p n = true
  | n + 1, hn => by
    rw [anyTo, Bool.or_eq_true]
    by_cases e : i = n
    · subst e; exact .inr h
    · exact .inl (anyTo_bad h (by omega))
theorem bt_loop (b : ByteArray) : ∀ (n i : Nat) (r : List UInt8), b.size - i = n → (ByteArray.toList.loop b i r).length = r.length + (b.size - i)
  | 0, i, r, h => by
    unfold ByteArray.toList.loop
    rw [if_neg (by omega), List.length_reverse]; omega
  | n + 1, i, r, h => by
    unfold ByteArray.toList.loop
    rw [if_pos (by omega), bt_loop b n (i + 1) _ (by omega), List.length_cons]; omega
theorem bt_len (b : ByteArray) : b.toList.length = b.size := by
  unfold ByteArray.toList
  have := bt_loop b _ 0 [] rfl
  simpa using this
theorem form_eq0 {op : Int} (h : ((formB op).toList == (⟨#[]⟩ : ByteArray).toList) = true) : formL op = [] := by
  have h1 : (formB op).toList = (⟨#[]⟩ : ByteArray).toList := by simpa using h
  have h2 := congrArg List.length h1
  rw [bt_len, bt_len] at h2
  have h3 : (formL op).length = 0 := by simpa [formB, ByteArray.size] using h2
  exact List.eq_nil_of_length_eq_zero h3
theorem form_ne0 {op : Int} (h : ((formB op).toList == (⟨#[]⟩ : ByteArray).toList) = false) : formL op ≠ [] := by
  intro e
  have : formB op = ⟨#[]⟩ := by rw [formB, e]
  rw [this] at h
  simp at h
def unB (x : PIns) (k : Nat) : Bool := letF x.op k == 45 && (opL x).getD k 0 != 0
def errTo (p : PProg) (f : PFun) (x : PIns) : Nat → Int
  | 0 => 0
  | k + 1 => if errTo p f x k ≠ 0 then errTo p f x k else opndF p f (letF x.op k) ((opL x).getD k 0) x
def instrF (p : PProg) (f : PFun) (x : PIns) : Int :=
  if formL x.op = [] then 33 else if anyTo (unB x) 4 then 34 else errTo p f x 4
theorem form_size {op : Int} (h : formL op ≠ []) : (formB op).size = 4 := by
  have := form_len h
  simpa [formB, ByteArray.size] using this
theorem err_first {p : PProg} {f : PFun} {x : PIns} {k : Nat} (h : errTo p f x k = 0) (hb : opndF p f (letF x.op k) ((opL x).getD k 0) x ≠ 0) : ∀ {n : Nat}, k < n → errTo p f x n = opndF p f (letF x.op k) ((opL x).getD k 0) x
  | n + 1, hn => by
    by_cases e : k = n
    · subst e
      rw [errTo, h, if_neg (by simp)]
    · have ih := err_first h hb (n := n) (by omega)
      rw [errTo, ih, if_pos hb]
theorem par_ok {p : PProg} {f : PFun} {x : PIns} {k : Nat} (h : errTo p f x k = 0) (hc : letF x.op k = 112) : 0 ≤ x.b ∧ x.b < p.funcs.length := by
  obtain ⟨rfl, h1⟩ := let_par hc
  have h2 : opndF p f (letF x.op 1) ((opL x).getD 1 0) x = 0 := by
    have e : errTo p f x 2 = if errTo p f x 1 ≠ 0 then errTo p f x 1 else opndF p f (letF x.op 1) ((opL x).getD 1 0) x := rfl
    rw [e] at h
    split at h
    · rename_i hne; exact absurd h hne
    · exact h
  rw [h1] at h2
  exact objF_ok h2
theorem operands_ac (x : PIns) : AC Tryz.prog T tysN 216 [encIns x] [] (opA x) [] := by
 refine AC_intro hT Tryz.func216 rfl rfl (Nat.le_of_ble_eq_true rfl) ?_
 refine sq (rg [] rfl ?_)
 refine sq (rg [] rfl ?_)
 refine WP.ret ?_
 change Fin ..
 refine Fin.ent (Ent.mk (P := Tryz.prog) hT [] (ts := [(2, .ptr (.s 2 0) 1 0 [])]) (ms := [(.s 2 0, .cells ⟨54, 1, fun _ => opA x, 0⟩)]) trivial ⟨⟨rfl, _, rfl, conv_eq rfl⟩, trivial⟩ ⟨⟨fun _ _ => okIds_agg (fun _ _ => rfl), .inl ⟨_, rfl, _, _, rfl, Nat.le_refl _, Nat.zero_le _, Nat.zero_le _, fun q hq => by (obtain rfl : q = 0 := (by simp at hq; exact hq)); exact conv_eq (opA_of x)⟩⟩, trivial⟩ rfl) ?_
 refine fin_mk hT [(.s 2 0, 1)] (ts := [(2, .rp 54 (opA x))]) (l := [opA x]) ⟨⟨_, rfl, Nat.le_refl _⟩, trivial⟩ ⟨⟨rfl, _, rfl, conv_rpe rfl rfl (by simp [lookF, idbeq_self]) rfl rfl noIds_arrI⟩, trivial⟩ trivial rfl rfl rfl
theorem instr_ac (p : PProg) (f : PFun) (x : PIns) : AC Tryz.prog T tysN 157 [.rp 257 (encCk p f), encIns x] [] (.int (instrF p f x)) [] := by
 refine AC_intro hT Tryz.func157 rfl rfl (Nat.le_of_ble_eq_true rfl) ?_
 refine sq (rg [] rfl ?_)
 refine sq (rgs [CG.pure (.v (.string (formB x.op)))] rfl ?_ ?_)
 ·have hf := form_ac x.op
  simp [holdsC, under, CG.pure]
  exact hf
 refine sq (sq (rg [] rfl ?_))
 refine cd rfl (fun h2 => ?_) (fun h2 => ?_)
 ·have hno : formL x.op = [] := form_eq0 h2
  refine sq (rg [] rfl ?_)
  refine WP.ret ?_
  change Fin ..
  exact finI hT (by rfl) (by rw [instrF, if_pos hno])
 ·have hne : formL x.op ≠ [] := form_ne0 h2
  have hsz := form_size hne
  refine sk (sq (rgs [CG.pure (opA x)] rfl ?_ ?_))
  ·have ho := operands_ac x
   simp [holdsC, under, CG.pure]
   exact ho
  refine sq (sq (rg [] rfl ?_))
  refine bk ?_
  refine WP.loop (α := Nat) (fun k => mkSt [(0, .rp 257 (encCk p f)), (3, .rp 120 (encIns x)), (5, .v (.string (formB x.op))), (6, .rp 54 (opA x)), (19, opA x), (20, .int k)] []) (fun k => k ≤ 4 ∧ anyTo (unB x) k = false) (fun k => 4 - k) ?_ ?_
  ·refine ⟨0, ?_, ?_⟩
   ·exact ⟨Nat.zero_le _, rfl⟩
   ·refine em [(.s 3 0, 1), (.s 6 0, 1)] ⟨⟨_, rfl, Nat.le_refl _⟩, ⟨_, rfl, Nat.le_refl _⟩, trivial⟩ ⟨⟨rfl, _, rfl, cvt⟩, ⟨rfl, _, rfl, conv_rpe rfl rfl (by decide) rfl rfl rfl⟩, ⟨rfl, _, rfl, cvt⟩, ⟨rfl, _, rfl, conv_rpe rfl rfl (by decide) rfl rfl rfl⟩, ⟨rfl, _, rfl, cvt⟩, ⟨rfl, _, rfl, cvt⟩, trivial⟩ trivial
  ·rintro k ⟨hk, hn⟩
   refine sq (rg [] rfl ?_)
   refine sq ?_
   refine cd rfl (fun h6 => ?_) (fun h6 => ?_)
   ·have hk4 : k < 4 := by simp at h6; omega
    refine sk (sq (bk (sq (rgs [] rfl ?_ ?_))))
    ·simp [holdsC, under]; omega
    refine sq (rgs [] rfl ?_ ?_)
    ·simp [holdsC, under, hsz]; omega
    refine cd rfl (fun h8 => ?_) (fun h8 => ?_)
    ·have hb : unB x k = true := by
       have e : (bif letF x.op k == 45 then (opL x).getD k 0 != 0 else false) = true := h8
       rwa [band] at e
     refine sq (rg [] rfl ?_)
     refine WP.ret ?_
     change Fin ..
     exact finI hT (by rfl) (by rw [instrF, if_neg hne, anyTo_bad hb hk4, if_pos rfl])
    ·have hb : unB x k = false := by
       have e : (bif letF x.op k == 45 then (opL x).getD k 0 != 0 else false) = false := h8
       rwa [band] at e
     refine sk (rg [] rfl ?_)
     refine ⟨k + 1, ?_, ?_, ?_⟩
     ·exact ⟨hk4, by rw [anyTo, hn, hb]; rfl⟩
     ·refine em [] trivial ⟨⟨rfl, _, rfl, cvt⟩, ⟨rfl, _, rfl, cvt⟩, ⟨rfl, _, rfl, cvt⟩, ⟨rfl, _, rfl, cvt⟩, ⟨rfl, _, rfl, cvt⟩, ⟨rfl, _, rfl, cvt⟩, trivial⟩ trivial
     ·(try simp only []); first | omega | grind
   ·have hk4 : k = 4 := by simp at h6; omega
    subst hk4
    refine xt (sq (sq (rg [] rfl ?_)))
    refine bk ?_
    refine WP.loop (α := Nat) (fun k => mkSt [(0, .rp 257 (encCk p f)), (3, .rp 120 (encIns x)), (5, .v (.string (formB x.op))), (33, opA x), (34, .int k)] []) (fun k => k ≤ 4 ∧ errTo p f x k = 0) (fun k => 4 - k) ?_ ?_
    ·refine ⟨0, ?_, ?_⟩
     ·exact ⟨Nat.zero_le _, rfl⟩
     ·refine em [] trivial ⟨⟨rfl, _, rfl, cvt⟩, ⟨rfl, _, rfl, cvt⟩, ⟨rfl, _, rfl, cvt⟩, ⟨rfl, _, rfl, cvt⟩, ⟨rfl, _, rfl, cvt⟩, trivial⟩ trivial
    ·rintro k ⟨hk, he⟩
     refine sq (rg [] rfl ?_)
     refine sq ?_
     refine cd rfl (fun h12 => ?_) (fun h12 => ?_)
     ·have hk4 : k < 4 := by simp at h12; omega
      refine sk (sq (bk (sq (rgs [] rfl ?_ ?_))))
      ·simp [holdsC, under]; omega
      refine sq (drs [CG.pure (.int (opndF p f (letF x.op k) ((opL x).getD k 0) x))] rfl ?_ ?_)
      ·have ho := operand_ac p f (letF x.op k) ((opL x).getD k 0) x (fun hc => par_ok he hc)
       have hk2 : k < (formB x.op).size := by omega
       refine ⟨⟨by omega, by omega⟩, ?_⟩
       exact ho
      refine sq (rg [] rfl ?_)
      refine cd rfl (fun h15 => ?_) (fun h15 => ?_)
      ·have hb : opndF p f (letF x.op k) ((opL x).getD k 0) x ≠ 0 := by simpa using h15
       refine sq (rg [] rfl ?_)
       refine WP.ret ?_
       change Fin ..
       refine finI hT (by rfl) ?_
       rw [instrF, if_neg hne, hn, if_neg (by simp), err_first he hb hk4]
      ·have hb : opndF p f (letF x.op k) ((opL x).getD k 0) x = 0 := by simpa using h15
       refine sk (rg [] rfl ?_)
       refine ⟨k + 1, ?_, ?_, ?_⟩
       ·exact ⟨hk4, by rw [errTo, he, if_neg (by simp)]; exact hb⟩
       ·refine em [] trivial ⟨⟨rfl, _, rfl, cvt⟩, ⟨rfl, _, rfl, cvt⟩, ⟨rfl, _, rfl, cvt⟩, ⟨rfl, _, rfl, cvt⟩, ⟨rfl, _, rfl, cvt⟩, trivial⟩ trivial
       ·(try simp only []); first | omega | grind
     ·have hk4 : k = 4 := by simp at h12; omega
      subst hk4
      refine xt (sq (rg [] rfl ?_))
      refine WP.ret ?_
      change Fin ..
      exact finI hT (by rfl) (by rw [instrF, if_neg hne, hn]; simp [he])
end Go.Ab


/- The reference: what is wrong with an instruction. -/
set_option autoImplicit false
set_option maxRecDepth 20000
set_option maxHeartbeats 4000000
set_option linter.unusedSimpArgs false
set_option linter.unusedVariables false
namespace Go.Ab
open Go.Proofs
theorem rinstr_ac (p : PProg) (f : PFun) (x : PIns) : AC Tryz.prog T tysN 109 [encProg p, encFun f, encIns x] [] (.int (instrF p f x)) [] := by
 refine AC_intro hT Tryz.func109 rfl rfl (Nat.le_of_ble_eq_true rfl) ?_
 refine sq (rg [] rfl ?_)
 refine sq (sq (rgs [CG.pure (.bool (locB x.op)), CG.pure (.bool (visB x.op))] rfl ?_ ?_))
 ·have h1 := rlocal_ac x.op
  have h2 := rvisible_ac x.op
  simp [holdsC, under, CG.pure]
  exact ⟨h1, fun _ => h2⟩
 refine cd rfl (fun h1 => ?_) (fun h1 => ?_)
 ·have hno : formL x.op = [] := by
    have e : (bif !locB x.op then !visB x.op else false) = true := h1
    rw [band, Bool.and_eq_true, Bool.not_eq_true', Bool.not_eq_true'] at e
    exact (form_none x.op).2 e
  refine sq (rg [] rfl ?_)
  refine WP.ret ?_
  change Fin ..
  exact finI hT (by rfl) (by rw [instrF, if_pos hno])
 ·have hne : formL x.op ≠ [] := by
    have e : (bif !locB x.op then !visB x.op else false) = false := h1
    rw [band] at e
    intro hz
    have := (form_none x.op).1 hz
    rw [this.1, this.2] at e
    cases e
  have hsz := form_size hne
  refine sk (sq (rgs [CG.pure (.v (.string (formB x.op)))] rfl ?_ ?_))
  ·have hf := rform_ac x.op
   simp [holdsC, under, CG.pure]
   exact hf
  refine sq (rg [] rfl ?_)
  refine sq (sq (rg [] rfl ?_))
  refine bk ?_
  refine WP.loop (α := Nat) (fun k => mkSt [(3, .rp 26 (encProg p)), (4, .rp 100 (encFun f)), (5, .rp 120 (encIns x)), (7, .v (.string (formB x.op))), (8, .rp 54 (opA x)), (9, .int k)] []) (fun k => k ≤ 4 ∧ anyTo (unB x) k = false) (fun k => 4 - k) ?_ ?_
  ·refine ⟨0, ?_, ?_⟩
   ·exact ⟨Nat.zero_le _, rfl⟩
   ·refine em [(.s 3 0, 1), (.s 4 0, 1), (.s 5 0, 1), (.s 8 0, 1)] ⟨⟨_, rfl, Nat.le_refl _⟩, ⟨_, rfl, Nat.le_refl _⟩, ⟨_, rfl, Nat.le_refl _⟩, ⟨_, rfl, Nat.le_refl _⟩, trivial⟩ ⟨⟨rfl, _, rfl, conv_rpe rfl rfl (by decide) rfl rfl rfl⟩, ⟨rfl, _, rfl, conv_rpe rfl rfl (by decide) rfl rfl rfl⟩, ⟨rfl, _, rfl, conv_rpe rfl rfl (by decide) rfl rfl rfl⟩, ⟨rfl, _, rfl, cvt⟩, ⟨rfl, _, rfl, conv_rpe rfl rfl (by decide) rfl (opA_of x) noIds_arrI⟩, ⟨rfl, _, rfl, cvt⟩, trivial⟩ trivial
  ·rintro k ⟨hk, hn⟩
   refine sq (sq (rg [] rfl ?_))
   refine cd rfl (fun h6 => ?_) (fun h6 => ?_)
   ·have hk4 : k < 4 := by simp at h6; omega
    refine sk (sq (bk (sq (rgs [] rfl ?_ ?_))))
    ·simp [holdsC, under, hsz]; omega
    refine cd rfl (fun h8 => ?_) (fun h8 => ?_)
    ·have hb : unB x k = true := by
       have e : (bif letF x.op k == 45 then (opL x).getD k 0 != 0 else false) = true := h8
       rwa [band] at e
     refine sq (rg [] rfl ?_)
     refine WP.ret ?_
     change Fin ..
     exact finI hT (by rfl) (by rw [instrF, if_neg hne, anyTo_bad hb hk4, if_pos rfl])
    ·have hb : unB x k = false := by
       have e : (bif letF x.op k == 45 then (opL x).getD k 0 != 0 else false) = false := h8
       rwa [band] at e
     refine sk (rg [] rfl ?_)
     refine ⟨k + 1, ?_, ?_, ?_⟩
     ·exact ⟨hk4, by rw [anyTo, hn, hb]; rfl⟩
     ·refine em [] trivial ⟨⟨rfl, _, rfl, cvt⟩, ⟨rfl, _, rfl, cvt⟩, ⟨rfl, _, rfl, cvt⟩, ⟨rfl, _, rfl, cvt⟩, ⟨rfl, _, rfl, cvt⟩, ⟨rfl, _, rfl, cvt⟩, trivial⟩ trivial
     ·(try simp only []); first | omega | grind
   ·have hk4 : k = 4 := by simp at h6; omega
    subst hk4
    refine xt (sq (sq (rg [] rfl ?_)))
    refine bk ?_
    refine WP.loop (α := Nat) (fun k => mkSt [(3, .rp 26 (encProg p)), (4, .rp 100 (encFun f)), (5, .rp 120 (encIns x)), (7, .v (.string (formB x.op))), (8, .rp 54 (opA x)), (10, .int k)] []) (fun k => k ≤ 4 ∧ errTo p f x k = 0) (fun k => 4 - k) ?_ ?_
    ·refine ⟨0, ?_, ?_⟩
     ·exact ⟨Nat.zero_le _, rfl⟩
     ·refine em [] trivial ⟨⟨rfl, _, rfl, cvt⟩, ⟨rfl, _, rfl, cvt⟩, ⟨rfl, _, rfl, cvt⟩, ⟨rfl, _, rfl, cvt⟩, ⟨rfl, _, rfl, cvt⟩, ⟨rfl, _, rfl, cvt⟩, trivial⟩ trivial
    ·rintro k ⟨hk, he⟩
     refine sq (sq (rg [] rfl ?_))
     refine cd rfl (fun h11 => ?_) (fun h11 => ?_)
     ·have hk4 : k < 4 := by simp at h11; omega
      refine sk (sq (bk (sq (drs [CG.pure (.int (opndF p f (letF x.op k) ((opL x).getD k 0) x))] rfl ?_ ?_))))
      ·have ho := roperand_ac p f (letF x.op k) ((opL x).getD k 0) x (fun hc => par_ok he hc)
       have hk2 : k < (formB x.op).size := by omega
       refine ⟨⟨⟨by omega, by omega⟩, ⟨by omega, by omega⟩⟩, ?_⟩
       exact ho
      refine sq (rg [] rfl ?_)
      refine cd rfl (fun h14 => ?_) (fun h14 => ?_)
      ·have hb : opndF p f (letF x.op k) ((opL x).getD k 0) x ≠ 0 := by simpa using h14
       refine sq (rg [] rfl ?_)
       refine WP.ret ?_
       change Fin ..
       refine finI hT (by rfl) ?_
       rw [instrF, if_neg hne, hn, if_neg (by simp), err_first he hb hk4]
      ·have hb : opndF p f (letF x.op k) ((opL x).getD k 0) x = 0 := by simpa using h14
       refine sk (rg [] rfl ?_)
       refine ⟨k + 1, ?_, ?_, ?_⟩
       ·exact ⟨hk4, by rw [errTo, he, if_neg (by simp)]; exact hb⟩
       ·refine em [] trivial ⟨⟨rfl, _, rfl, cvt⟩, ⟨rfl, _, rfl, cvt⟩, ⟨rfl, _, rfl, cvt⟩, ⟨rfl, _, rfl, cvt⟩, ⟨rfl, _, rfl, cvt⟩, ⟨rfl, _, rfl, cvt⟩, trivial⟩ trivial
       ·(try simp only []); first | omega | grind
     ·have hk4 : k = 4 := by simp at h11; omega
      subst hk4
      refine xt (sq (rg [] rfl ?_))
      refine WP.ret ?_
      change Fin ..
      exact finI hT (by rfl) (by rw [instrF, if_neg hne, hn]; simp [he])
end Go.Ab


/- Sizes; selects. -/
set_option autoImplicit false
set_option maxRecDepth 20000
set_option maxHeartbeats 4000000
set_option linter.unusedSimpArgs false
set_option linter.unusedVariables false
namespace Go.Ab
open Go.Proofs
def fstE {α : Type} (g : α → Int) : List α → Int
  | [] => 0
  | x :: r => if g x ≠ 0 then g x else fstE g r
theorem fstE_at {α : Type} {g : α → Int} {d : α} : ∀ {l : List α} {i : Nat}, i < l.length → (∀ j, j < i → g (l.getD j d) = 0) → g (l.getD i d) ≠ 0 → fstE g l = g (l.getD i d)
  | x :: r, 0, _, _, hb => by
    have hb' : g x ≠ 0 := hb
    rw [fstE, if_pos hb']; rfl
  | x :: r, i + 1, hi, hn, hb => by
    have h0 := hn 0 (by omega)
    rw [fstE, if_neg (by simpa using h0)]
    exact fstE_at (l := r) (i := i) (by simpa using hi) (fun j hj => hn (j + 1) (by omega)) hb
theorem fstE_all {α : Type} {g : α → Int} {d : α} : ∀ {l : List α}, (∀ j, j < l.length → g (l.getD j d) = 0) → fstE g l = 0
  | [], _ => rfl
  | x :: r, hn => by
    have h0 := hn 0 (by simp)
    rw [fstE, if_neg (by simpa using h0)]
    exact fstE_all (l := r) (fun j hj => hn (j + 1) (by simpa using hj))
def szB (p : PProg) : Bool := decide ((p.vars.length : Int) > 8) || decide (p.locks < 0) || decide (p.locks > 4) || decide ((p.chans.length : Int) > 4) || decide ((p.funcs.length : Int) < 1) || decide ((p.funcs.length : Int) > 8)
def chanF (n : Int) : Int := if decide (n < 0) || decide (n > 4) then 31 else 0
def wholeF (p : PProg) : Int := if szB p then 30 else fstE chanF p.chans
theorem below_succ {P : Nat → Prop} {i : Nat} (h : ∀ j, j < i → P j) (hi : P i) : ∀ j, j < i + 1 → P j := fun j hj => by
  rcases Nat.lt_or_ge j i with h1 | h1
  · exact h j h1
  · obtain rfl : j = i := by omega
    exact hi
theorem whole_ac (p : PProg) : AC Tryz.prog T tysN 154 [encProg p] [] (.int (wholeF p)) [] := by
 refine AC_intro hT Tryz.func154 rfl rfl (Nat.le_of_ble_eq_true rfl) ?_
 refine sq (rg [] rfl ?_)
 refine sq (sq (rg [] rfl ?_))
 refine cd rfl (fun h1 => ?_) (fun h1 => ?_)
 ·have hb : szB p = true := by
    simp only [bor] at h1
    exact h1
  refine sq (rg [] rfl ?_)
  refine WP.ret ?_
  change Fin ..
  exact finI hT (by rfl) (by rw [wholeF, if_pos hb])
 ·have hb : szB p = false := by
    simp only [bor] at h1
    exact h1
  have hcl : p.chans.length ≤ 4 := by
    simp [szB] at hb; omega
  refine sk (sq (sq (rg [] rfl ?_)))
  refine bk ?_
  refine WP.loop (α := Nat) (fun i => mkSt [(38, ints false p.chans), (39, .int p.chans.length), (40, .int i)] []) (fun i => i ≤ p.chans.length ∧ ∀ j, j < i → chanF (p.chans.getD j 0) = 0) (fun i => p.chans.length - i) ?_ ?_
  ·refine ⟨0, ?_, ?_⟩
   ·exact ⟨Nat.zero_le _, fun j hj => by omega⟩
   ·refine em [] trivial ⟨⟨rfl, _, rfl, cvt⟩, ⟨rfl, _, rfl, cvt⟩, ⟨rfl, _, rfl, cvt⟩, trivial⟩ trivial
  ·rintro i ⟨hi, hn⟩
   refine sq (rg [] rfl ?_)
   refine sq ?_
   refine cd rfl (fun h4 => ?_) (fun h4 => ?_)
   ·have hil : i < p.chans.length := by simpa using h4
    refine sk (sq (bk (sq (rgs [] rfl ?_ ?_))))
    ·simp [holdsC, under]; omega
    refine sq (rg [] rfl ?_)
    refine cd rfl (fun h6 => ?_) (fun h6 => ?_)
    ·have hx : chanF (p.chans.getD i 0) = 31 := by
       simp only [bor] at h6
       exact if_pos h6
     refine sq (rg [] rfl ?_)
     refine WP.ret ?_
     change Fin ..
     exact finI hT (by rfl) (by rw [wholeF, hb, if_neg (by simp), fstE_at hil hn (by rw [hx]; decide), hx])
    ·have hx : chanF (p.chans.getD i 0) = 0 := by
       simp only [bor] at h6
       exact if_neg (by rw [show (decide (p.chans.getD i 0 < 0) || decide (p.chans.getD i 0 > 4)) = false from h6]; decide)
     refine sk (rg [] rfl ?_)
     refine ⟨i + 1, ?_, ?_, ?_⟩
     ·exact ⟨hil, below_succ hn hx⟩
     ·refine em [] trivial ⟨⟨rfl, _, rfl, cvt⟩, ⟨rfl, _, rfl, cvt⟩, ⟨rfl, _, rfl, cvt⟩, trivial⟩ trivial
     ·(try simp only []); first | omega | grind
   ·have hil : i = p.chans.length := by simp at h4; omega
    subst hil
    refine xt (sq (rg [] rfl ?_))
    refine WP.ret ?_
    change Fin ..
    exact finI hT (by rfl) (by rw [wholeF, hb, if_neg (by simp), fstE_all hn])
def szF (f : PFun) (main : Bool) : Bool := (decide (f.regs ≥ 0) && decide (f.regs ≤ 8) && decide (f.params ≥ 0) && decide (f.params ≤ f.regs) && !(main && decide (f.params > 0))) && decide ((f.code.length : Int) ≥ 1) && decide ((f.code.length : Int) ≤ 64) && decide ((f.sels.length : Int) ≤ 4)
theorem szF_iff {f : PFun} {main : Bool} : szF f main = true ↔ 0 ≤ f.regs ∧ f.regs ≤ 8 ∧ 0 ≤ f.params ∧ f.params ≤ f.regs ∧ ¬ (main = true ∧ f.params > 0) ∧ (f.code.length : Int) ≥ 1 ∧ (f.code.length : Int) ≤ 64 ∧ (f.sels.length : Int) ≤ 4 := by
  simp only [szF, Bool.and_eq_true, decide_eq_true_eq, Bool.not_eq_true', Bool.and_eq_false_iff, decide_eq_false_iff_not]
  cases main <;> simp <;> omega
theorem not_true {b : Bool} (h : ¬ b = true) : b = false := by simpa using h
def selB (s : PSel) : Bool := decide ((s.cases.length : Int) ≥ 1) && decide ((s.cases.length : Int) ≤ 4)
def selTo (f : PFun) : Nat → Bool
  | 0 => true
  | i + 1 => selTo f i && selB (f.sels.getD i sel0)
theorem selTo_bad {f : PFun} {i : Nat} {n : Nat} (h : i < n) (hx : selB (f.sels.getD i sel0) = false) : selTo f n = false := by
  induction n with
  | zero => omega
  | succ n ih =>
    rw [selTo]
    by_cases e : i = n
    · subst e; rw [hx, Bool.and_false]
    · rw [ih (by omega), Bool.false_and]
def formedF (f : PFun) (main : Bool) : Bool := szF f main && selTo f f.sels.length
theorem sizes_ac (f : PFun) (main : Bool) : AC Tryz.prog T tysN 155 [encFun f, .bool main] [] (.int (if formedF f main then 0 else 32)) [] := by
 refine AC_intro hT Tryz.func155 rfl rfl (Nat.le_of_ble_eq_true rfl) ?_
 refine sq (rg [] rfl ?_)
 refine sq (rg [] rfl ?_)
 refine sq (rg [] rfl ?_)
 refine sq (sq (rg [] rfl ?_))
 refine WP.rowlen 57 rfl (fun hl57 => ?_)
 refine bk ?_
 refine WP.loop (α := Nat × Bool) (fun (⟨i, ok⟩ : Nat × Bool) => mkSt [(5, .bool ok), (57, rowP 103 encSel sel0 f.sels), (58, .int f.sels.length), (59, .int i)] []) (fun (⟨i, ok⟩ : Nat × Bool) => i ≤ f.sels.length ∧ ok = (szF f main && selTo f i)) (fun (⟨i, ok⟩ : Nat × Bool) => f.sels.length - i) ?_ ?_
 ·refine ⟨(0, szF f main), ?_, ?_⟩
  ·exact ⟨Nat.zero_le _, by simp [selTo]⟩
  ·refine em [] trivial ⟨⟨rfl, _, rfl, conv_eq (by simp only [band]; rfl)⟩, ⟨rfl, _, rfl, cvt⟩, ⟨rfl, _, rfl, cvt⟩, ⟨rfl, _, rfl, cvt⟩, trivial⟩ trivial
 ·rintro ⟨i, ok⟩ ⟨hi, hok⟩
  refine sq (rg [] rfl ?_)
  refine sq ?_
  refine cd rfl (fun h4 => ?_) (fun h4 => ?_)
  ·have hil : i < f.sels.length := by simpa using h4
   refine sk (sq (bk (sq (rgs [] rfl ?_ ?_))))
   ·simp [holdsC, under]; omega
   refine rg [] rfl ?_
   refine rg [] rfl ?_
   refine ⟨(i + 1, szF f main && selTo f (i + 1)), ?_, ?_, ?_⟩
   ·exact ⟨hil, rfl⟩
   ·refine em [] trivial ⟨⟨rfl, _, rfl, conv_eq (by simp only [band]; rw [hok, selTo, selB]; simp only [Bool.and_assoc]; rfl)⟩, ⟨rfl, _, rfl, cvt⟩, ⟨rfl, _, rfl, cvt⟩, ⟨rfl, _, rfl, cvt⟩, trivial⟩ trivial
   ·(try simp only []); first | omega | grind
  ·have hil : i = f.sels.length := by simp at h4; omega
   subst hil
   refine xt (sq (sq (rg [] rfl ?_)))
   refine cd rfl (fun h8 => ?_) (fun h8 => ?_)
   ·have ho : formedF f main = false := by rw [formedF, ← hok]; simpa using h8
    refine sq (rg [] rfl ?_)
    refine WP.ret ?_
    change Fin ..
    exact finI hT (by rfl) (by rw [ho]; rfl)
   ·have ho : formedF f main = true := by rw [formedF, ← hok]; simpa using h8
    refine sk (sq (rg [] rfl ?_))
    refine WP.ret ?_
    change Fin ..
    exact finI hT (by rfl) (by rw [ho]; rfl)
theorem formed_ac (n : Nat) (f : PFun) : AC Tryz.prog T tysN 107 [.int n, encFun f] [] (.bool (formedF f (n == 0))) [] := by
 refine AC_intro hT Tryz.func107 rfl rfl (Nat.le_of_ble_eq_true rfl) ?_
 refine sq (rg [] rfl ?_)
 refine sq (sq (rg [] rfl ?_))
 refine cd rfl (fun h1 => ?_) (fun h1 => ?_)
 ·have hb : szF f (n == 0) = false := by
    refine not_true fun hz => ?_
    rw [szF_iff] at hz
    simp only [bor, band, Bool.or_eq_true, Bool.and_eq_true, decide_eq_true_eq, beq_iff_eq, bne_iff_ne] at h1 hz
    omega
  refine sq (rg [] rfl ?_)
  refine WP.ret ?_
  change Fin ..
  exact fin1 hT (by rfl) (by rw [formedF, hb]; rfl)
 ·refine sk (sq (sq (rg [] rfl ?_)))
  refine cd rfl (fun h3 => ?_) (fun h3 => ?_)
  ·have hb : szF f (n == 0) = false := by
     refine not_true fun hz => ?_
     rw [szF_iff] at hz
     simp only [bor, band, Bool.or_eq_true, Bool.and_eq_true, decide_eq_true_eq, beq_iff_eq, bne_iff_ne] at h3 hz
     omega
   refine sq (rg [] rfl ?_)
   refine WP.ret ?_
   change Fin ..
   exact fin1 hT (by rfl) (by rw [formedF, hb]; rfl)
  ·have hb : szF f (n == 0) = true := by
     rw [szF_iff]
     simp only [bor, band, Bool.or_eq_false_iff, Bool.and_eq_false_iff, decide_eq_false_iff_not, beq_iff_eq, beq_eq_false_iff_ne, bne_eq_false_iff_eq] at h1 h3 ⊢
     omega
   have hsl : f.sels.length ≤ 4 := by
     simp [szF] at hb; omega
   refine sk (sq (sq (rg [] rfl ?_)))
   refine bk ?_
   refine WP.loop (α := Nat) (fun i => mkSt [(53, rowP 103 encSel sel0 f.sels), (54, .int f.sels.length), (55, .int i)] []) (fun i => i ≤ f.sels.length ∧ selTo f i = true) (fun i => f.sels.length - i) ?_ ?_
   ·refine ⟨0, ?_, ?_⟩
    ·exact ⟨Nat.zero_le _, rfl⟩
    ·refine em [] trivial ⟨⟨rfl, _, rfl, cvt⟩, ⟨rfl, _, rfl, cvt⟩, ⟨rfl, _, rfl, cvt⟩, trivial⟩ trivial
   ·rintro i ⟨hi, hok⟩
    refine sq (rg [] rfl ?_)
    refine sq ?_
    refine cd rfl (fun h6 => ?_) (fun h6 => ?_)
    ·have hil : i < f.sels.length := by simpa using h6
     refine sk (sq (bk (sq (rgs [] rfl ?_ ?_))))
     ·simp [holdsC, under]; omega
     refine sq (rg [] rfl ?_)
     refine cd rfl (fun h8 => ?_) (fun h8 => ?_)
     ·have hx : selB (f.sels.getD i sel0) = false := by
        simp only [bor, Bool.or_eq_true, decide_eq_true_eq, Int.toNat_natCast] at h8
        simp only [selB, Bool.and_eq_false_iff, decide_eq_false_iff_not]
        omega
      refine sq (rg [] rfl ?_)
      refine WP.ret ?_
      change Fin ..
      exact fin1 hT (by rfl) (by rw [formedF, selTo_bad hil hx, Bool.and_false])
     ·have hx : selB (f.sels.getD i sel0) = true := by
        simp only [bor, Bool.or_eq_false_iff, decide_eq_false_iff_not, Int.toNat_natCast] at h8
        simp only [selB, Bool.and_eq_true, decide_eq_true_eq]
        omega
      refine sk (rg [] rfl ?_)
      refine ⟨i + 1, ?_, ?_, ?_⟩
      ·exact ⟨hil, by rw [selTo, hok, hx]; rfl⟩
      ·refine em [] trivial ⟨⟨rfl, _, rfl, cvt⟩, ⟨rfl, _, rfl, cvt⟩, ⟨rfl, _, rfl, cvt⟩, trivial⟩ trivial
      ·(try simp only []); first | omega | grind
    ·have hil : i = f.sels.length := by simp at h6; omega
     subst hil
     refine xt (sq (rg [] rfl ?_))
     refine WP.ret ?_
     change Fin ..
     exact fin1 hT (by rfl) (by rw [formedF, hb, hok]; rfl)
end Go.Ab


/- Selects. -/
set_option autoImplicit false
set_option maxRecDepth 20000
set_option maxHeartbeats 4000000
set_option linter.unusedSimpArgs false
set_option linter.unusedVariables false
namespace Go.Ab
open Go.Proofs
theorem selTo_at {f : PFun} : ∀ {n : Nat}, selTo f n = true → ∀ i, i < n → selB (f.sels.getD i sel0) = true
  | n + 1, h, i, hi => by
    rw [selTo, Bool.and_eq_true] at h
    by_cases e : i = n
    · subst e; exact h.2
    · exact selTo_at h.1 i (by omega)
def caseF (p : PProg) (f : PFun) (c : PCase) : Int :=
  if objF c.chan p.chans.length ≠ 0 then 36 else if (c.send || c.reg != -1) = true ∧ regF f c.reg ≠ 0 then 35 else
  if (c.send && p.chans.getD c.chan.toNat 0 == 0) = true then 37 else tgtF f c.to
def elseF (f : PFun) (s : PSel) : Int := if s.els ≠ -1 then tgtF f s.els else 0
def selF (p : PProg) (f : PFun) (s : PSel) : Int := if fstE (caseF p f) s.cases ≠ 0 then fstE (caseF p f) s.cases else elseF f s
def selsF (p : PProg) (f : PFun) : Int := fstE (selF p f) f.sels
abbrev selAt (f : PFun) (i : Nat) : PSel := f.sels.getD i sel0
abbrev caseAt (s : PSel) (k : Nat) : PCase := s.cases.getD k case0
theorem selF_case {p : PProg} {f : PFun} {s : PSel} {k : Nat} {e : Int} (hk : k < s.cases.length) (hn : ∀ j, j < k → caseF p f (caseAt s j) = 0) (he : caseF p f (caseAt s k) = e) (h0 : e ≠ 0) : selF p f s = e := by
  subst he
  have := fstE_at hk hn h0
  rw [selF, this, if_pos h0]
theorem sels_case {p : PProg} {f : PFun} {i : Nat} {e : Int} (hi : i < f.sels.length) (hn : ∀ j, j < i → selF p f (selAt f j) = 0) (he : selF p f (selAt f i) = e) (h0 : e ≠ 0) : selsF p f = e := by
  subst he
  rw [selsF, fstE_at hi hn h0]
theorem objF_bad {n m : Int} (h : objF n m ≠ 0) : objF n m = 36 := by
  unfold objF at h ⊢
  split
  · rename_i hw; rw [if_pos hw] at h; exact absurd rfl h
  · rfl
theorem regF_bad {f : PFun} {n : Int} (h : regF f n ≠ 0) : regF f n = 35 := by
  unfold regF at h ⊢
  split
  · rename_i hw; rw [if_pos hw] at h; exact absurd rfl h
  · rfl
theorem selects_ac (p : PProg) (f : PFun) (m : Bool) (hf : formedF f m = true) : AC Tryz.prog T tysN 156 [.rp 257 (encCk p f)] [] (.int (selsF p f)) [] := by
 refine AC_intro hT Tryz.func156 rfl rfl (Nat.le_of_ble_eq_true rfl) ?_
 have hsz : szF f m = true := by rw [formedF, Bool.and_eq_true] at hf; exact hf.1
 have hst : selTo f f.sels.length = true := by rw [formedF, Bool.and_eq_true] at hf; exact hf.2
 rw [szF_iff] at hsz
 refine sq (rg [] rfl ?_)
 refine sq (sq (rg [] rfl ?_))
 refine bk ?_
 refine WP.loop (α := Nat) (fun i => mkSt [(0, .rp 257 (encCk p f)), (15, rowP 103 encSel sel0 f.sels), (16, .int f.sels.length), (17, .int i)] []) (fun i => i ≤ f.sels.length ∧ ∀ j, j < i → selF p f (selAt f j) = 0) (fun i => f.sels.length - i) ?_ ?_
 ·refine ⟨0, ?_, ?_⟩
  ·exact ⟨Nat.zero_le _, fun j hj => by omega⟩
  ·refine em [] trivial ⟨⟨rfl, _, rfl, cvt⟩, ⟨rfl, _, rfl, cvt⟩, ⟨rfl, _, rfl, cvt⟩, ⟨rfl, _, rfl, cvt⟩, trivial⟩ trivial
 ·rintro i ⟨hi, hn⟩
  refine sq (rg [] rfl ?_)
  refine sq ?_
  refine cd rfl (fun h2 => ?_) (fun h2 => ?_)
  ·have hil : i < f.sels.length := by simpa using h2
   have hsb := selTo_at hst i hil
   have hcl : (selAt f i).cases.length ≤ 4 := by
     simp only [selB, Bool.and_eq_true, decide_eq_true_eq] at hsb
     simp only [selAt]; omega
   refine sk (sq (bk (sq (rgs [] rfl ?_ ?_))))
   ·simp [holdsC, under]; omega
   refine sq (sq (rg [] rfl ?_))
   refine bk ?_
   refine WP.loop (α := Nat) (fun k => mkSt [(0, .rp 257 (encCk p f)), (4, .rp 103 (encSel (selAt f i))), (15, rowP 103 encSel sel0 f.sels), (16, .int f.sels.length), (17, .int i), (22, rowP 215 encCase case0 (selAt f i).cases), (23, .int (selAt f i).cases.length), (24, .int k)] []) (fun k => k ≤ (selAt f i).cases.length ∧ ∀ j, j < k → caseF p f (caseAt (selAt f i) j) = 0) (fun k => (selAt f i).cases.length - k) ?_ ?_
   ·refine ⟨0, ?_, ?_⟩
    ·exact ⟨Nat.zero_le _, fun j hj => by omega⟩
    ·refine em [(.s 4 0, 1)] ⟨⟨_, rfl, Nat.le_refl _⟩, trivial⟩ ⟨⟨rfl, _, rfl, cvt⟩, ⟨rfl, _, rfl, conv_rpe rfl rfl (by decide) rfl rfl rfl⟩, ⟨rfl, _, rfl, cvt⟩, ⟨rfl, _, rfl, cvt⟩, ⟨rfl, _, rfl, cvt⟩, ⟨rfl, _, rfl, cvt⟩, ⟨rfl, _, rfl, cvt⟩, ⟨rfl, _, rfl, cvt⟩, trivial⟩ trivial
   ·rintro k ⟨hk, hc⟩
    refine sq (rg [] rfl ?_)
    refine sq ?_
    refine cd rfl (fun h5 => ?_) (fun h5 => ?_)
    ·have hkl : k < (selAt f i).cases.length := by simpa using h5
     refine sk (sq (bk (sq (rgs [] rfl ?_ ?_))))
     ·have hkl2 : k < (f.sels[i]?.getD sel0).cases.length := hkl
      simp [holdsC, under]; omega
     refine sq (sq (drs [CG.pure (.int (objF (caseAt (selAt f i) k).chan p.chans.length))] rfl ?_ ?_))
     ·have ho := object_ac (caseAt (selAt f i) k).chan p.chans.length
      refine ⟨⟨rfl, rfl⟩, ?_⟩
      exact ho
     refine sq (rg [] rfl ?_)
     refine cd rfl (fun h8 => ?_) (fun h8 => ?_)
     ·have hb : objF (caseAt (selAt f i) k).chan p.chans.length ≠ 0 := by simpa using h8
      refine sq (rg [] rfl ?_)
      refine WP.ret ?_
      change Fin ..
      refine finI hT (by rfl) ?_
      rw [objF_bad hb, sels_case hil hn (selF_case hkl hc (by rw [caseF, if_pos hb]) (by decide)) (by decide)]
     ·have hb : objF (caseAt (selAt f i) k).chan p.chans.length = 0 := by simpa using h8
      have hch := objF_ok hb
      refine sk (sq (sq (rg [] rfl ?_)))
      refine cd rfl (fun h10 => ?_) (fun h10 => ?_)
      ·have hsr : ((caseAt (selAt f i) k).send || (caseAt (selAt f i) k).reg != -1) = true := by
         have e : (bif (caseAt (selAt f i) k).send then true else (caseAt (selAt f i) k).reg != -1) = true := h10
         rwa [bor] at e
       refine sq (rgs [CG.pure (.int (regF f (caseAt (selAt f i) k).reg))] rfl ?_ ?_)
       ·have ho := register_ac p f (caseAt (selAt f i) k).reg
        refine ⟨⟨rfl, rfl⟩, ?_⟩
        exact ho
       refine sq (rg [] rfl ?_)
       refine cd rfl (fun h12 => ?_) (fun h12 => ?_)
       ·have hr : regF f (caseAt (selAt f i) k).reg ≠ 0 := by simpa using h12
        refine sq (rg [] rfl ?_)
        refine WP.ret ?_
        change Fin ..
        refine finI hT (by rfl) ?_
        rw [regF_bad hr, sels_case hil hn (selF_case hkl hc (by rw [caseF, if_neg (fun h => h hb), if_pos ⟨hsr, hr⟩]) (by decide)) (by decide)]
       ·have hr : ¬ (((caseAt (selAt f i) k).send || (caseAt (selAt f i) k).reg != -1) = true ∧ regF f (caseAt (selAt f i) k).reg ≠ 0) := fun h => h.2 (by simpa using h12)
        refine sk (sq (sq (drs [] rfl ?_ ?_)))
        ·simp only [selAt, caseAt, List.getD_eq_getElem?_getD] at hch
         simp [holdsC, under]
         exact fun _ => hch
        refine cd rfl (fun h14 => ?_) (fun h14 => ?_)
        ·have hz : ((caseAt (selAt f i) k).send && p.chans.getD (caseAt (selAt f i) k).chan.toNat 0 == 0) = true := by
           have e : (bif (caseAt (selAt f i) k).send then p.chans.getD (caseAt (selAt f i) k).chan.toNat 0 == 0 else false) = true := h14
           rwa [band] at e
         refine sq (rg [] rfl ?_)
         refine WP.ret ?_
         change Fin ..
         refine finI hT (by rfl) ?_
         rw [sels_case hil hn (selF_case hkl hc (by rw [caseF, if_neg (fun h => h hb), if_neg hr, if_pos hz]) (by decide)) (by decide)]
        ·have hz : ¬ ((caseAt (selAt f i) k).send && p.chans.getD (caseAt (selAt f i) k).chan.toNat 0 == 0) = true := by
           have e : (bif (caseAt (selAt f i) k).send then p.chans.getD (caseAt (selAt f i) k).chan.toNat 0 == 0 else false) = false := h14
           rw [band] at e
           rw [e]; decide
         have hcf : caseF p f (caseAt (selAt f i) k) = tgtF f (caseAt (selAt f i) k).to := by rw [caseF, if_neg (fun h => h hb), if_neg hr, if_neg hz]
         refine sk (sq (rgs [CG.pure (.int (tgtF f (caseAt (selAt f i) k).to))] rfl ?_ ?_))
         ·have ho := target_ac p f (caseAt (selAt f i) k).to
          refine ⟨⟨rfl, rfl⟩, ?_⟩
          exact ho
         refine sq (rg [] rfl ?_)
         refine cd rfl (fun h17 => ?_) (fun h17 => ?_)
         ·have ht : tgtF f (caseAt (selAt f i) k).to ≠ 0 := by simpa using h17
          refine sq (rg [] rfl ?_)
          refine WP.ret ?_
          change Fin ..
          refine finI hT (by rfl) ?_
          rw [sels_case hil hn (selF_case hkl hc hcf ht) ht]
         ·have ht : tgtF f (caseAt (selAt f i) k).to = 0 := by simpa using h17
          refine sk (rg [] rfl ?_)
          refine ⟨k + 1, ?_, ?_, ?_⟩
          ·exact ⟨hkl, below_succ hc (by rw [hcf, ht])⟩
          ·refine em [] trivial ⟨⟨rfl, _, rfl, cvt⟩, ⟨rfl, _, rfl, cvt⟩, ⟨rfl, _, rfl, cvt⟩, ⟨rfl, _, rfl, cvt⟩, ⟨rfl, _, rfl, cvt⟩, ⟨rfl, _, rfl, cvt⟩, ⟨rfl, _, rfl, cvt⟩, ⟨rfl, _, rfl, cvt⟩, trivial⟩ trivial
          ·(try simp only []); first | omega | grind
      ·have hr : ¬ (((caseAt (selAt f i) k).send || (caseAt (selAt f i) k).reg != -1) = true ∧ regF f (caseAt (selAt f i) k).reg ≠ 0) := by
         have e : (bif (caseAt (selAt f i) k).send then true else (caseAt (selAt f i) k).reg != -1) = false := h10
         rw [bor] at e
         rw [e]; simp
       refine sk (sq (sq (drs [] rfl ?_ ?_)))
       ·simp only [selAt, caseAt, List.getD_eq_getElem?_getD] at hch
        simp [holdsC, under]
        exact fun _ => hch
       refine cd rfl (fun h14 => ?_) (fun h14 => ?_)
       ·have hz : ((caseAt (selAt f i) k).send && p.chans.getD (caseAt (selAt f i) k).chan.toNat 0 == 0) = true := by
          have e : (bif (caseAt (selAt f i) k).send then p.chans.getD (caseAt (selAt f i) k).chan.toNat 0 == 0 else false) = true := h14
          rwa [band] at e
        refine sq (rg [] rfl ?_)
        refine WP.ret ?_
        change Fin ..
        refine finI hT (by rfl) ?_
        rw [sels_case hil hn (selF_case hkl hc (by rw [caseF, if_neg (fun h => h hb), if_neg hr, if_pos hz]) (by decide)) (by decide)]
       ·have hz : ¬ ((caseAt (selAt f i) k).send && p.chans.getD (caseAt (selAt f i) k).chan.toNat 0 == 0) = true := by
          have e : (bif (caseAt (selAt f i) k).send then p.chans.getD (caseAt (selAt f i) k).chan.toNat 0 == 0 else false) = false := h14
          rw [band] at e
          rw [e]; decide
        have hcf : caseF p f (caseAt (selAt f i) k) = tgtF f (caseAt (selAt f i) k).to := by rw [caseF, if_neg (fun h => h hb), if_neg hr, if_neg hz]
        refine sk (sq (rgs [CG.pure (.int (tgtF f (caseAt (selAt f i) k).to))] rfl ?_ ?_))
        ·have ho := target_ac p f (caseAt (selAt f i) k).to
         refine ⟨⟨rfl, rfl⟩, ?_⟩
         exact ho
        refine sq (rg [] rfl ?_)
        refine cd rfl (fun h17 => ?_) (fun h17 => ?_)
        ·have ht : tgtF f (caseAt (selAt f i) k).to ≠ 0 := by simpa using h17
         refine sq (rg [] rfl ?_)
         refine WP.ret ?_
         change Fin ..
         refine finI hT (by rfl) ?_
         rw [sels_case hil hn (selF_case hkl hc hcf ht) ht]
        ·have ht : tgtF f (caseAt (selAt f i) k).to = 0 := by simpa using h17
         refine sk (rg [] rfl ?_)
         refine ⟨k + 1, ?_, ?_, ?_⟩
         ·exact ⟨hkl, below_succ hc (by rw [hcf, ht])⟩
         ·refine em [] trivial ⟨⟨rfl, _, rfl, cvt⟩, ⟨rfl, _, rfl, cvt⟩, ⟨rfl, _, rfl, cvt⟩, ⟨rfl, _, rfl, cvt⟩, ⟨rfl, _, rfl, cvt⟩, ⟨rfl, _, rfl, cvt⟩, ⟨rfl, _, rfl, cvt⟩, ⟨rfl, _, rfl, cvt⟩, trivial⟩ trivial
         ·(try simp only []); first | omega | grind
    ·have hkl : k = (selAt f i).cases.length := by simp only [decide_eq_false_iff_not] at h5; omega
     subst hkl
     have hsf : selF p f (selAt f i) = elseF f (selAt f i) := by rw [selF, fstE_all hc]; simp
     refine xt (sq (rg [] rfl ?_))
     refine cd rfl (fun h20 => ?_) (fun h20 => ?_)
     ·have he : (selAt f i).els ≠ -1 := by simpa using h20
      refine sq (rgs [CG.pure (.int (tgtF f (selAt f i).els))] rfl ?_ ?_)
      ·have ho := target_ac p f (selAt f i).els
       exact ho
      refine sq (rg [] rfl ?_)
      refine cd rfl (fun h22 => ?_) (fun h22 => ?_)
      ·have ht : tgtF f (selAt f i).els ≠ 0 := by simpa using h22
       refine sq (rg [] rfl ?_)
       refine WP.ret ?_
       change Fin ..
       refine finI hT (by rfl) ?_
       rw [sels_case hil hn (by rw [hsf, elseF, if_pos he]) ht]
      ·have ht : tgtF f (selAt f i).els = 0 := by simpa using h22
       refine sk (rg [] rfl ?_)
       refine ⟨i + 1, ?_, ?_, ?_⟩
       ·exact ⟨hil, below_succ hn (by rw [hsf, elseF, if_pos he, ht])⟩
       ·refine em [] trivial ⟨⟨rfl, _, rfl, cvt⟩, ⟨rfl, _, rfl, cvt⟩, ⟨rfl, _, rfl, cvt⟩, ⟨rfl, _, rfl, cvt⟩, trivial⟩ trivial
       ·(try simp only []); first | omega | grind
     ·have he : (selAt f i).els = -1 := by simpa using h20
      refine sk (rg [] rfl ?_)
      refine ⟨i + 1, ?_, ?_, ?_⟩
      ·exact ⟨hil, below_succ hn (by rw [hsf, elseF, if_neg (fun h => h he)])⟩
      ·refine em [] trivial ⟨⟨rfl, _, rfl, cvt⟩, ⟨rfl, _, rfl, cvt⟩, ⟨rfl, _, rfl, cvt⟩, ⟨rfl, _, rfl, cvt⟩, trivial⟩ trivial
      ·(try simp only []); first | omega | grind
  ·have hil : i = f.sels.length := by simp at h2; omega
   subst hil
   refine xt (sq (rg [] rfl ?_))
   refine WP.ret ?_
   change Fin ..
   exact finI hT (by rfl) (by rw [selsF, fstE_all hn])
theorem objF_w (n m : Int) : objF n m ≠ 0 ↔ withinB n m = false := by
  unfold objF; cases withinB n m <;> simp
theorem regF_w (f : PFun) (n : Int) : regF f n ≠ 0 ↔ withinB n f.regs = false := by
  unfold regF; cases withinB n f.regs <;> simp
theorem rselects_ac (p : PProg) (f : PFun) (m : Bool) (hf : formedF f m = true) : AC Tryz.prog T tysN 108 [encProg p, encFun f] [] (.int (selsF p f)) [] := by
 refine AC_intro hT Tryz.func108 rfl rfl (Nat.le_of_ble_eq_true rfl) ?_
 have hsz : szF f m = true := by rw [formedF, Bool.and_eq_true] at hf; exact hf.1
 have hst : selTo f f.sels.length = true := by rw [formedF, Bool.and_eq_true] at hf; exact hf.2
 rw [szF_iff] at hsz
 refine sq (rg [] rfl ?_)
 refine sq (sq (rg [] rfl ?_))
 refine bk ?_
 refine WP.loop (α := Nat) (fun i => mkSt [(2, .rp 26 (encProg p)), (3, .rp 100 (encFun f)), (10, rowP 103 encSel sel0 f.sels), (11, .int f.sels.length), (12, .int i)] []) (fun i => i ≤ f.sels.length ∧ ∀ j, j < i → selF p f (selAt f j) = 0) (fun i => f.sels.length - i) ?_ ?_
 ·refine ⟨0, ?_, ?_⟩
  ·exact ⟨Nat.zero_le _, fun j hj => by omega⟩
  ·refine em [(.s 2 0, 1), (.s 3 0, 1)] ⟨⟨_, rfl, Nat.le_refl _⟩, ⟨_, rfl, Nat.le_refl _⟩, trivial⟩ ⟨⟨rfl, _, rfl, conv_rpe rfl rfl (by decide) rfl rfl rfl⟩, ⟨rfl, _, rfl, conv_rpe rfl rfl (by decide) rfl rfl rfl⟩, ⟨rfl, _, rfl, cvt⟩, ⟨rfl, _, rfl, cvt⟩, ⟨rfl, _, rfl, cvt⟩, trivial⟩ trivial
 ·rintro i ⟨hi, hn⟩
  refine sq (rg [] rfl ?_)
  refine sq ?_
  refine cd rfl (fun h2 => ?_) (fun h2 => ?_)
  ·have hil : i < f.sels.length := by simpa using h2
   have hsb := selTo_at hst i hil
   have hcl : (selAt f i).cases.length ≤ 4 := by
     simp only [selB, Bool.and_eq_true, decide_eq_true_eq] at hsb
     simp only [selAt]; omega
   refine sk (sq (bk (sq (rgs [] rfl ?_ ?_))))
   ·simp [holdsC, under]; omega
   refine sq (sq (rg [] rfl ?_))
   refine bk ?_
   refine WP.loop (α := Nat) (fun k => mkSt [(2, .rp 26 (encProg p)), (3, .rp 100 (encFun f)), (6, .rp 103 (encSel (selAt f i))), (10, rowP 103 encSel sel0 f.sels), (11, .int f.sels.length), (12, .int i), (17, rowP 215 encCase case0 (selAt f i).cases), (18, .int (selAt f i).cases.length), (19, .int k)] []) (fun k => k ≤ (selAt f i).cases.length ∧ ∀ j, j < k → caseF p f (caseAt (selAt f i) j) = 0) (fun k => (selAt f i).cases.length - k) ?_ ?_
   ·refine ⟨0, ?_, ?_⟩
    ·exact ⟨Nat.zero_le _, fun j hj => by omega⟩
    ·refine em [(.s 6 0, 1)] ⟨⟨_, rfl, Nat.le_refl _⟩, trivial⟩ ⟨⟨rfl, _, rfl, cvt⟩, ⟨rfl, _, rfl, cvt⟩, ⟨rfl, _, rfl, conv_rpe rfl rfl (by decide) rfl rfl rfl⟩, ⟨rfl, _, rfl, cvt⟩, ⟨rfl, _, rfl, cvt⟩, ⟨rfl, _, rfl, cvt⟩, ⟨rfl, _, rfl, cvt⟩, ⟨rfl, _, rfl, cvt⟩, ⟨rfl, _, rfl, cvt⟩, trivial⟩ trivial
   ·rintro k ⟨hk, hc⟩
    refine sq (rg [] rfl ?_)
    refine sq ?_
    refine cd rfl (fun h5 => ?_) (fun h5 => ?_)
    ·have hkl : k < (selAt f i).cases.length := by simpa using h5
     refine sk (sq (bk (sq (rgs [] rfl ?_ ?_))))
     ·have hkl2 : k < (f.sels[i]?.getD sel0).cases.length := hkl
      simp [holdsC, under]; omega
     refine sq (sq (rgs [CG.pure (.bool (withinB (caseAt (selAt f i) k).chan p.chans.length))] rfl ?_ ?_))
     ·have ho := rwithin_ac (caseAt (selAt f i) k).chan p.chans.length
      refine ⟨⟨rfl, rfl⟩, ?_⟩
      exact ho
     refine cd rfl (fun h7 => ?_) (fun h7 => ?_)
     ·have hb : objF (caseAt (selAt f i) k).chan p.chans.length ≠ 0 := (objF_w _ _).2 (by simpa using h7)
      refine sq (rg [] rfl ?_)
      refine WP.ret ?_
      change Fin ..
      refine finI hT (by rfl) ?_
      rw [sels_case hil hn (selF_case hkl hc (by rw [caseF, if_pos hb]) (by decide)) (by decide)]
     ·have hb : objF (caseAt (selAt f i) k).chan p.chans.length = 0 := by
        have e : withinB (caseAt (selAt f i) k).chan p.chans.length = true := by simpa using h7
        rw [objF, if_pos e]
      have hch := objF_ok hb
      refine sk (sq (sq (rgs [CG.pure (.bool (withinB (caseAt (selAt f i) k).reg f.regs))] rfl ?_ ?_)))
      ·have ho := rwithin_ac (caseAt (selAt f i) k).reg f.regs
       simp [holdsC, under, CG.pure]
       refine ⟨ho, ?_⟩
       intro a b
       simp [a, b]
      refine cd rfl (fun h9 => ?_) (fun h9 => ?_)
      ·have hr : ((caseAt (selAt f i) k).send || (caseAt (selAt f i) k).reg != -1) = true ∧ regF f (caseAt (selAt f i) k).reg ≠ 0 := by
         have e : (bif !withinB (caseAt (selAt f i) k).reg f.regs then (bif (caseAt (selAt f i) k).send then true else (caseAt (selAt f i) k).reg != -1) else false) = true := h9
         rw [band, bor, Bool.and_eq_true] at e
         exact ⟨e.2, (regF_w _ _).2 (by simpa using e.1)⟩
       refine sq (rg [] rfl ?_)
       refine WP.ret ?_
       change Fin ..
       refine finI hT (by rfl) ?_
       rw [sels_case hil hn (selF_case hkl hc (by rw [caseF, if_neg (fun h => h hb), if_pos hr]) (by decide)) (by decide)]
      ·have hr : ¬ (((caseAt (selAt f i) k).send || (caseAt (selAt f i) k).reg != -1) = true ∧ regF f (caseAt (selAt f i) k).reg ≠ 0) := by
         have e : (bif !withinB (caseAt (selAt f i) k).reg f.regs then (bif (caseAt (selAt f i) k).send then true else (caseAt (selAt f i) k).reg != -1) else false) = false := h9
         rw [band, bor] at e
         rintro ⟨a, b⟩
         rw [a, (regF_w _ _).1 b] at e
         cases e
       refine sk (sq (sq (rgs [] rfl ?_ ?_)))
       ·simp [holdsC, under]
        exact fun _ => hch
       refine cd rfl (fun h11 => ?_) (fun h11 => ?_)
       ·have hz : ((caseAt (selAt f i) k).send && p.chans.getD (caseAt (selAt f i) k).chan.toNat 0 == 0) = true := by
          have e : (bif (caseAt (selAt f i) k).send then p.chans.getD (caseAt (selAt f i) k).chan.toNat 0 == 0 else false) = true := h11
          rwa [band] at e
        refine sq (rg [] rfl ?_)
        refine WP.ret ?_
        change Fin ..
        refine finI hT (by rfl) ?_
        rw [sels_case hil hn (selF_case hkl hc (by rw [caseF, if_neg (fun h => h hb), if_neg hr, if_pos hz]) (by decide)) (by decide)]
       ·have hz : ¬ ((caseAt (selAt f i) k).send && p.chans.getD (caseAt (selAt f i) k).chan.toNat 0 == 0) = true := by
          have e : (bif (caseAt (selAt f i) k).send then p.chans.getD (caseAt (selAt f i) k).chan.toNat 0 == 0 else false) = false := h11
          rw [band] at e
          rw [e]; decide
        have hcf : caseF p f (caseAt (selAt f i) k) = tgtF f (caseAt (selAt f i) k).to := by rw [caseF, if_neg (fun h => h hb), if_neg hr, if_neg hz]
        refine sk (sq (rgs [CG.pure (.bool (withinB (caseAt (selAt f i) k).to f.code.length))] rfl ?_ ?_))
        ·have ho := rwithin_ac (caseAt (selAt f i) k).to f.code.length
         refine ⟨⟨rfl, rfl⟩, ?_⟩
         exact ho
        refine cd rfl (fun h13 => ?_) (fun h13 => ?_)
        ·have ht : tgtF f (caseAt (selAt f i) k).to = 38 := by
           have e : withinB (caseAt (selAt f i) k).to f.code.length = false := by simpa using h13
           rw [tgtF, e]; rfl
         refine sq (rg [] rfl ?_)
         refine WP.ret ?_
         change Fin ..
         refine finI hT (by rfl) ?_
         rw [sels_case hil hn (selF_case hkl hc (by rw [hcf, ht]) (by decide)) (by decide)]
        ·have ht : tgtF f (caseAt (selAt f i) k).to = 0 := by
           have e : withinB (caseAt (selAt f i) k).to f.code.length = true := by simpa using h13
           rw [tgtF, if_pos e]
         refine sk (rg [] rfl ?_)
         refine ⟨k + 1, ?_, ?_, ?_⟩
         ·exact ⟨hkl, below_succ hc (by rw [hcf, ht])⟩
         ·refine em [] trivial ⟨⟨rfl, _, rfl, cvt⟩, ⟨rfl, _, rfl, cvt⟩, ⟨rfl, _, rfl, cvt⟩, ⟨rfl, _, rfl, cvt⟩, ⟨rfl, _, rfl, cvt⟩, ⟨rfl, _, rfl, cvt⟩, ⟨rfl, _, rfl, cvt⟩, ⟨rfl, _, rfl, cvt⟩, ⟨rfl, _, rfl, cvt⟩, trivial⟩ trivial
         ·(try simp only []); first | omega | grind
    ·have hkl : k = (selAt f i).cases.length := by simp only [decide_eq_false_iff_not] at h5; omega
     subst hkl
     have hsf : selF p f (selAt f i) = elseF f (selAt f i) := by rw [selF, fstE_all hc]; simp
     refine xt (sq (rgs [CG.pure (.bool (withinB (selAt f i).els f.code.length))] rfl ?_ ?_))
     ·have ho := rwithin_ac (selAt f i).els f.code.length
      simp [holdsC, under, CG.pure]
      exact fun _ => ho
     refine cd rfl (fun h16 => ?_) (fun h16 => ?_)
     ·have he : elseF f (selAt f i) = 38 := by
        have e : (bif (selAt f i).els != -1 then !withinB (selAt f i).els f.code.length else false) = true := h16
        rw [band, Bool.and_eq_true, Bool.not_eq_true'] at e
        rw [elseF, if_pos (by simpa using e.1), tgtF, e.2]; rfl
      refine sq (rg [] rfl ?_)
      refine WP.ret ?_
      change Fin ..
      refine finI hT (by rfl) ?_
      rw [sels_case hil hn (by rw [hsf, he]) (by decide)]
     ·have he : elseF f (selAt f i) = 0 := by
        have e : (bif (selAt f i).els != -1 then !withinB (selAt f i).els f.code.length else false) = false := h16
        rw [band] at e
        rw [elseF]
        split
        · rename_i h1
          rw [show ((selAt f i).els != -1) = true by simpa using h1, Bool.true_and] at e
          rw [tgtF, if_pos (by simpa using e)]
        · rfl
      refine sk (rg [] rfl ?_)
      refine ⟨i + 1, ?_, ?_, ?_⟩
      ·exact ⟨hil, below_succ hn (by rw [hsf, he])⟩
      ·refine em [] trivial ⟨⟨rfl, _, rfl, cvt⟩, ⟨rfl, _, rfl, cvt⟩, ⟨rfl, _, rfl, cvt⟩, ⟨rfl, _, rfl, cvt⟩, ⟨rfl, _, rfl, cvt⟩, trivial⟩ trivial
      ·(try simp only []); first | omega | grind
  ·have hil : i = f.sels.length := by simp at h2; omega
   subst hil
   refine xt (sq (rg [] rfl ?_))
   refine WP.ret ?_
   change Fin ..
   exact finI hT (by rfl) (by rw [selsF, fstE_all hn])
end Go.Ab


/- Programs checked. -/
set_option autoImplicit false
set_option maxRecDepth 20000
set_option maxHeartbeats 4000000
set_option linter.unusedSimpArgs false
set_option linter.unusedVariables false
namespace Go.Ab
open Go.Proofs
def fkE {α : Type} (g : α → Int) : List α → Nat
  | [] => 0
  | x :: r => if g x ≠ 0 then 0 else fkE g r + 1
theorem fkE_at {α : Type} {g : α → Int} {d : α} : ∀ {l : List α} {i : Nat}, i < l.length → (∀ j, j < i → g (l.getD j d) = 0) → g (l.getD i d) ≠ 0 → fkE g l = i
  | x :: r, 0, _, _, hb => by
    have hb' : g x ≠ 0 := hb
    rw [fkE, if_pos hb']
  | x :: r, i + 1, hi, hn, hb => by
    have h0 := hn 0 (by omega)
    rw [fkE, if_neg (by simpa using h0)]
    rw [fkE_at (l := r) (i := i) (by simpa using hi) (fun j hj => hn (j + 1) (by omega)) hb]
def spotA (a b : Int) : AV := stru 128 [.int a, .int b]
def lastO (f : PFun) : Int := (f.code.getD (f.code.length - 1) ins0).op
def endO (op : Int) : Bool := op == 42 || op == 45 || op == 61
theorem endO_1 {x : Int} (h : (x == 42) = true) : endO x = true := by rw [endO, h]; rfl
theorem endO_2 {x : Int} (h : (x == 45) = true) : endO x = true := by rw [endO, h]; simp
theorem endO_3 {x : Int} (h : (x == 61) = true) : endO x = true := by rw [endO, h]; simp
theorem endO_no {x : Int} (h1 : (x == 42) = false) (h2 : (x == 45) = false) (h3 : (x == 61) = false) : endO x = false := by rw [endO, h1, h2, h3]; rfl
def funE (p : PProg) (f : PFun) (main : Bool) : Int × Int :=
  if formedF f main = false then (32, 0) else if selsF p f ≠ 0 then (selsF p f, 0) else
  if fstE (instrF p f) f.code ≠ 0 then (fstE (instrF p f) f.code, fkE (instrF p f) f.code) else
  if endO (lastO f) then (0, 0) else (39, (f.code.length : Int) - 1)
abbrev funAt (p : PProg) (i : Nat) : PFun := p.funcs.getD i fun0
def progFrom (p : PProg) : Nat → Nat → Int × Int × Int
  | 0, _ => (0, 0, 0)
  | n + 1, i => if (funE p (funAt p i) (i == 0)).1 ≠ 0 then ((funE p (funAt p i) (i == 0)).1, i, (funE p (funAt p i) (i == 0)).2) else progFrom p n (i + 1)
def checkF (p : PProg) : Int × Int × Int := if wholeF p ≠ 0 then (wholeF p, 0, 0) else progFrom p p.funcs.length 0
theorem progFrom_skip {p : PProg} : ∀ {i n : Nat}, i ≤ n → (∀ j, j < i → (funE p (funAt p j) (j == 0)).1 = 0) → progFrom p n 0 = progFrom p (n - i) i
  | 0, n, _, _ => rfl
  | i + 1, n, h, hn => by
    rw [progFrom_skip (i := i) (by omega) (fun j hj => hn j (by omega)), show n - i = (n - (i + 1)) + 1 by omega, progFrom, if_neg (fun h => h (hn i (by omega)))]
theorem check_at {p : PProg} {i : Nat} {e pc : Int} (hw : wholeF p = 0) (hi : i < p.funcs.length) (hn : ∀ j, j < i → (funE p (funAt p j) (j == 0)).1 = 0) (he : funE p (funAt p i) (i == 0) = (e, pc)) (h0 : e ≠ 0) : checkF p = (e, (i : Int), pc) := by
  rw [checkF, if_neg (by simp [hw]), progFrom_skip (Nat.le_of_lt hi) hn, show p.funcs.length - i = (p.funcs.length - i - 1) + 1 by omega, progFrom, he, if_pos h0]
theorem check_ok {p : PProg} (hw : wholeF p = 0) (hn : ∀ j, j < p.funcs.length → (funE p (funAt p j) (j == 0)).1 = 0) : checkF p = (0, 0, 0) := by
  rw [checkF, if_neg (by simp [hw]), progFrom_skip (Nat.le_refl _) hn, Nat.sub_self]; rfl
def checkA (p : PProg) : AV := .tup [.int (checkF p).1, spotA (checkF p).2.1 (checkF p).2.2]
theorem noIds_spot (a b : Int) : noIds (spotA a b) = true := rfl
theorem fin_spot {nt : Nat} {st : St} {p : PProg} {e a b : Int} {B : Blk} (hc : checkF p = (e, a, b)) (h2 : st.t 2 = some (.always, .int e)) (h3 : st.t 3 = some (.always, .ptr (.s 3 0) 1 0 [])) (hm : st.m (.s 3 0) = some (.cells B)) (hty : B.ty = 128) (hn1 : B.n = 1) (hfz : B.fz = 0) (hy : Conv st.m (fun id => lookF id []) T (B.get 0) (spotA a b)) : Fin T tysN nt 0 [.tmp 2, .cell 3 128] (checkA p) [] st := by
  obtain ⟨ty, n, get, fz⟩ := B
  simp only at hty hn1 hfz hy
  subst hty hn1 hfz
  rw [checkA, hc]
  refine Fin.ent (Ent.mk (P := Tryz.prog) hT [] (ts := [(2, .int e), (3, .ptr (.s 3 0) 1 0 [])]) (ms := [(.s 3 0, .cells ⟨128, 1, fun _ => spotA a b, 0⟩)]) trivial ⟨⟨rfl, _, h2, conv_eq rfl⟩, ⟨rfl, _, h3, conv_eq rfl⟩, trivial⟩ ⟨⟨fun _ _ => rfl, .inl ⟨_, hm, _, _, rfl, Nat.le_refl _, Nat.zero_le _, Nat.zero_le _, fun q hq => ?_⟩⟩, trivial⟩ rfl) ?_
  · obtain rfl : q = 0 := by simp at hq; exact hq
    exact hy
  · refine fin_mk hT [(.s 3 0, 1)] (ts := [(2, .int e), (3, .rp 128 (spotA a b))]) (l := [.int e, spotA a b]) ⟨⟨_, rfl, Nat.le_refl _⟩, trivial⟩ ⟨⟨rfl, _, rfl, conv_eq rfl⟩, ⟨rfl, _, rfl, ?_⟩, trivial⟩ trivial rfl rfl rfl
    exact conv_rpe rfl rfl (by simp [lookF, idbeq_self]) rfl rfl (noIds_spot a b)
theorem pcheck_ac (p : PProg) : AC Tryz.prog T tysN 111 [encProg p] [] (checkA p) [] := by
 refine AC_intro hT Tryz.func111 rfl rfl (Nat.le_of_ble_eq_true rfl) ?_
 refine sq (rg [] rfl ?_)
 refine sq (sq (rgs [CG.pure (.int (wholeF p))] rfl ?_ ?_))
 ·have hw := whole_ac p
  exact ⟨rfl, hw⟩
 refine sq (rg [] rfl ?_)
 refine cd rfl (fun h2 => ?_) (fun h2 => ?_)
 ·have hw : wholeF p ≠ 0 := by simpa using h2
  refine sq (rg [] rfl ?_)
  refine WP.ret ?_
  change Fin ..
  refine fin_spot (e := wholeF p) (a := 0) (b := 0) (by rw [checkF, if_pos hw]) rfl rfl rfl rfl rfl rfl ?_
  exact conv_eq rfl
 ·have hw : wholeF p = 0 := by simpa using h2
  have hfl : p.funcs.length ≤ 8 := by
    have h1 : szB p = false := by
      unfold wholeF at hw
      split at hw
      · cases hw
      · rename_i h; simpa using h
    simp [szB] at h1; omega
  refine sk (sq (sq (rg [] rfl ?_)))
  refine bk ?_
  refine WP.loop (α := Nat) (fun i => mkSt [(1, .rp 26 (encProg p)), (3, .ptr (.s 3 0) 1 0 []), (21, rowP 100 encFun fun0 p.funcs), (22, .int p.funcs.length), (23, .int i)] [(.s 3 0, .cells ⟨128, 1, fun _ => spotA 0 0, 0⟩)]) (fun i => i ≤ p.funcs.length ∧ ∀ j, j < i → (funE p (funAt p j) (j == 0)).1 = 0) (fun i => p.funcs.length - i) ?_ ?_
  ·refine ⟨0, ?_, ?_⟩
   ·exact ⟨Nat.zero_le _, fun j hj => by omega⟩
   ·refine em [(.s 1 0, 1)] ⟨⟨_, rfl, Nat.le_refl _⟩, trivial⟩ ⟨⟨rfl, _, rfl, conv_rpe rfl rfl (by decide) rfl rfl rfl⟩, ⟨rfl, _, rfl, cvt⟩, ⟨rfl, _, rfl, cvt⟩, ⟨rfl, _, rfl, cvt⟩, ⟨rfl, _, rfl, cvt⟩, trivial⟩ ⟨obs rfl, trivial⟩
  ·rintro i ⟨hi, hn⟩
   refine sq (rg [] rfl ?_)
   refine sq ?_
   refine cd rfl (fun h5 => ?_) (fun h5 => ?_)
   ·have hil : i < p.funcs.length := by simpa using h5
    refine sk (sq (bk (sq (rgs [] rfl ?_ ?_))))
    ·simp [holdsC, under]; omega
    refine sq (sq (rgs [CG.pure (.int (if formedF (funAt p i) (i == 0) then 0 else 32))] rfl ?_ ?_))
    ·have hz := sizes_ac (funAt p i) (i == 0)
     have ei : ((i : Int) == 0) = (i == 0) := by rw [Bool.eq_iff_iff]; simp
     refine ⟨rfl, ?_⟩
     have hz2 : AC Tryz.prog T tysN 155 [encFun (funAt p i), .bool ((i : Int) == 0)] [] (.int (if formedF (funAt p i) (i == 0) then 0 else 32)) [] := by rw [ei]; exact hz
     exact hz2
    refine sq (rg [] rfl ?_)
    refine cd rfl (fun h8 => ?_) (fun h8 => ?_)
    ·have hb : formedF (funAt p i) (i == 0) = false := by
       cases hz : formedF (funAt p i) (i == 0) with
       | false => rfl
       | true => rw [hz] at h8; simp at h8
     refine sq (rg [] rfl ?_)
     refine WP.ret ?_
     change Fin ..
     exact fin_spot (e := (if formedF (funAt p i) (i == 0) then 0 else 32)) (a := i) (b := 0) (by rw [hb]; exact check_at (e := 32) hw hil hn (by rw [funE, if_pos hb]) (by decide)) rfl rfl rfl rfl rfl rfl (conv_eq (agg_ext (fun q => by match q with | 0 | 1 | q + 2 => rfl)))
    ·have hb : formedF (funAt p i) (i == 0) = true := by
       cases hz : formedF (funAt p i) (i == 0) with
       | true => rfl
       | false => rw [hz] at h8; simp at h8
     have h64 : (funAt p i).code.length ≤ 64 ∧ 1 ≤ (funAt p i).code.length := by
       have h1 : szF (funAt p i) (i == 0) = true := by
         have h2 := hb
         rw [formedF, Bool.and_eq_true] at h2
         exact h2.1
       rw [szF_iff] at h1
       omega
     refine sk (sq (rg [] rfl ?_))
     refine sq (sq ?_)
     refine WP.ent (st' := mkSt [(1, .rp 26 (encProg p)), (3, .ptr (.s 3 0) 1 0 []), (5, .int i), (6, .rp 100 (encFun (funAt p i))), (8, .rp 257 (encCk p (funAt p i))), (21, rowP 100 encFun fun0 p.funcs), (22, .int p.funcs.length), (23, .int i)] [(.s 3 0, .cells ⟨128, 1, fun _ => spotA 0 0, 0⟩)]) ?_ ?_
     ·refine em [(.s 6 0, 1), (.s 40 0, 1)] ⟨⟨_, rfl, Nat.le_refl _⟩, ⟨_, rfl, Nat.le_refl _⟩, trivial⟩ ⟨⟨rfl, _, rfl, cvt⟩, ⟨rfl, _, rfl, cvt⟩, ⟨rfl, _, rfl, cvt⟩, ⟨rfl, _, rfl, conv_rpe rfl rfl (by decide) rfl rfl rfl⟩, ⟨rfl, _, rfl, conv_rpe rfl rfl (by decide) rfl (agg_ext (fun q => by match q with | 0 | 1 | q + 2 => rfl)) rfl⟩, ⟨rfl, _, rfl, cvt⟩, ⟨rfl, _, rfl, cvt⟩, ⟨rfl, _, rfl, cvt⟩, trivial⟩ ⟨obs rfl, trivial⟩
     refine rgs [CG.pure (.int (selsF p (funAt p i)))] rfl ?_ ?_
     ·have hs := selects_ac p (funAt p i) (i == 0) hb
      exact hs
     refine sq (rg [] rfl ?_)
     refine cd rfl (fun h12 => ?_) (fun h12 => ?_)
     ·have hs : selsF p (funAt p i) ≠ 0 := by simpa using h12
      refine sq (rg [] rfl ?_)
      refine WP.ret ?_
      change Fin ..
      exact fin_spot (e := selsF p (funAt p i)) (a := i) (b := 0) (check_at hw hil hn (by rw [funE, if_neg (by rw [hb]; decide), if_pos hs]) hs) rfl rfl rfl rfl rfl rfl (conv_eq (agg_ext (fun q => by match q with | 0 | 1 | q + 2 => rfl)))
     ·have hs : selsF p (funAt p i) = 0 := by simpa using h12
      refine sk (sq (sq (rg [] rfl ?_)))
      refine bk ?_
      refine WP.loop (α := Nat) (fun k => mkSt [(1, .rp 26 (encProg p)), (3, .ptr (.s 3 0) 1 0 []), (5, .int i), (6, .rp 100 (encFun (funAt p i))), (8, .rp 257 (encCk p (funAt p i))), (21, rowP 100 encFun fun0 p.funcs), (22, .int p.funcs.length), (23, .int i), (49, rowP 120 encIns ins0 (funAt p i).code), (50, .int (funAt p i).code.length), (51, .int k)] [(.s 3 0, .cells ⟨128, 1, fun _ => spotA 0 0, 0⟩)]) (fun k => k ≤ (funAt p i).code.length ∧ ∀ j, j < k → instrF p (funAt p i) ((funAt p i).code.getD j ins0) = 0) (fun k => (funAt p i).code.length - k) ?_ ?_
      ·refine ⟨0, ?_, ?_⟩
       ·exact ⟨Nat.zero_le _, fun j hj => by omega⟩
       ·refine em [] trivial ⟨⟨rfl, _, rfl, cvt⟩, ⟨rfl, _, rfl, cvt⟩, ⟨rfl, _, rfl, cvt⟩, ⟨rfl, _, rfl, cvt⟩, ⟨rfl, _, rfl, cvt⟩, ⟨rfl, _, rfl, cvt⟩, ⟨rfl, _, rfl, cvt⟩, ⟨rfl, _, rfl, cvt⟩, ⟨rfl, _, rfl, cvt⟩, ⟨rfl, _, rfl, cvt⟩, ⟨rfl, _, rfl, cvt⟩, trivial⟩ ⟨obs rfl, trivial⟩
      ·rintro k ⟨hk, hc⟩
       refine sq (rg [] rfl ?_)
       refine sq ?_
       refine cd rfl (fun h15 => ?_) (fun h15 => ?_)
       ·have hkl : k < (funAt p i).code.length := by simpa using h15
        refine sk (sq (bk (sq (rgs [] rfl ?_ ?_))))
        ·have hkl2 : k < (p.funcs[i]?.getD fun0).code.length := hkl
         simp [holdsC, under]; omega
        refine sq (rgs [CG.pure (.int (instrF p (funAt p i) ((funAt p i).code.getD k ins0)))] rfl ?_ ?_)
        ·have hx := instr_ac p (funAt p i) ((funAt p i).code.getD k ins0)
         refine ⟨rfl, ?_⟩
         exact hx
        refine sq (rg [] rfl ?_)
        refine cd rfl (fun h18 => ?_) (fun h18 => ?_)
        ·have hx : instrF p (funAt p i) ((funAt p i).code.getD k ins0) ≠ 0 := by simpa using h18
         refine sq (rg [] rfl ?_)
         refine WP.ret ?_
         change Fin ..
         exact fin_spot (e := instrF p (funAt p i) ((funAt p i).code.getD k ins0)) (a := i) (b := k) (check_at hw hil hn (by rw [funE, if_neg (by rw [hb]; decide), if_neg (fun h => h hs), fstE_at hkl hc hx, fkE_at hkl hc hx, if_pos hx]) hx) rfl rfl rfl rfl rfl rfl (conv_eq (agg_ext (fun q => by match q with | 0 | 1 | q + 2 => rfl)))
        ·have hx : instrF p (funAt p i) ((funAt p i).code.getD k ins0) = 0 := by simpa using h18
         refine sk (rg [] rfl ?_)
         refine ⟨k + 1, ?_, ?_, ?_⟩
         ·exact ⟨hkl, below_succ hc hx⟩
         ·refine em [] trivial ⟨⟨rfl, _, rfl, cvt⟩, ⟨rfl, _, rfl, cvt⟩, ⟨rfl, _, rfl, cvt⟩, ⟨rfl, _, rfl, cvt⟩, ⟨rfl, _, rfl, cvt⟩, ⟨rfl, _, rfl, cvt⟩, ⟨rfl, _, rfl, cvt⟩, ⟨rfl, _, rfl, cvt⟩, ⟨rfl, _, rfl, cvt⟩, ⟨rfl, _, rfl, cvt⟩, ⟨rfl, _, rfl, cvt⟩, trivial⟩ ⟨obs rfl, trivial⟩
         ·(try simp only []); first | omega | grind
       ·have hkl : k = (funAt p i).code.length := by simp only [decide_eq_false_iff_not] at h15; omega
        subst hkl
        refine xt (sq (rg [] rfl ?_))
        refine sq (rgs [] rfl ?_ ?_)
        ·have hc64 : (p.funcs[i]?.getD fun0).code.length ≤ 64 ∧ 1 ≤ (p.funcs[i]?.getD fun0).code.length := h64
         simp [holdsC, under]
         rw [wrap_id (by omega) (by omega)]
         omega
        refine bk (sq (sq ?_))
        have hlst : (funAt p i).code.getD (IntKind.i64.wrap (((funAt p i).code.length : Int) - 1)).toNat ins0 = (funAt p i).code.getD ((funAt p i).code.length - 1) ins0 := by
          rw [wrap_id (by omega) (by omega)]
          congr 1
          omega
        have ho : ((funAt p i).code.getD (IntKind.i64.wrap (((funAt p i).code.length : Int) - 1)).toNat ins0).op = lastO (funAt p i) := by rw [hlst]; rfl
        refine rg [] rfl ?_
        refine cd rfl (fun h24 => ?_) (fun h24 => ?_)
        ·refine sk ?_
         refine cd rfl (fun h24 => ?_) (fun h24 => ?_)
         ·refine sk (rg [] rfl ?_)
          refine ⟨i + 1, ?_, ?_, ?_⟩
          ·refine ⟨hil, below_succ hn ?_⟩
           have he : endO (lastO (funAt p i)) = true := by first | exact endO_1 (by rw [← ho]; exact h24) | exact endO_2 (by rw [← ho]; exact h25) | exact endO_3 (by rw [← ho]; exact h26)
           rw [funE, if_neg (by rw [hb]; decide), if_neg (fun h => h hs), if_neg (fun h => h (fstE_all hc)), if_pos he]
          ·refine em [] trivial ⟨⟨rfl, _, rfl, cvt⟩, ⟨rfl, _, rfl, cvt⟩, ⟨rfl, _, rfl, cvt⟩, ⟨rfl, _, rfl, cvt⟩, ⟨rfl, _, rfl, cvt⟩, trivial⟩ ⟨obs rfl, trivial⟩
          ·(try simp only []); first | omega | grind
         ·simp_all
        ·refine sq (rg [] rfl ?_)
         refine cd rfl (fun h25 => ?_) (fun h25 => ?_)
         ·refine sk ?_
          refine cd rfl (fun h25 => ?_) (fun h25 => ?_)
          ·refine sk (rg [] rfl ?_)
           refine ⟨i + 1, ?_, ?_, ?_⟩
           ·refine ⟨hil, below_succ hn ?_⟩
            have he : endO (lastO (funAt p i)) = true := by first | exact endO_1 (by rw [← ho]; exact h24) | exact endO_2 (by rw [← ho]; exact h25) | exact endO_3 (by rw [← ho]; exact h26)
            rw [funE, if_neg (by rw [hb]; decide), if_neg (fun h => h hs), if_neg (fun h => h (fstE_all hc)), if_pos he]
           ·refine em [] trivial ⟨⟨rfl, _, rfl, cvt⟩, ⟨rfl, _, rfl, cvt⟩, ⟨rfl, _, rfl, cvt⟩, ⟨rfl, _, rfl, cvt⟩, ⟨rfl, _, rfl, cvt⟩, trivial⟩ ⟨obs rfl, trivial⟩
           ·(try simp only []); first | omega | grind
          ·simp_all
         ·refine rg [] rfl ?_
          refine cd rfl (fun h26 => ?_) (fun h26 => ?_)
          ·refine sk (rg [] rfl ?_)
           refine ⟨i + 1, ?_, ?_, ?_⟩
           ·refine ⟨hil, below_succ hn ?_⟩
            have he : endO (lastO (funAt p i)) = true := by first | exact endO_1 (by rw [← ho]; exact h24) | exact endO_2 (by rw [← ho]; exact h25) | exact endO_3 (by rw [← ho]; exact h26)
            rw [funE, if_neg (by rw [hb]; decide), if_neg (fun h => h hs), if_neg (fun h => h (fstE_all hc)), if_pos he]
           ·refine em [] trivial ⟨⟨rfl, _, rfl, cvt⟩, ⟨rfl, _, rfl, cvt⟩, ⟨rfl, _, rfl, cvt⟩, ⟨rfl, _, rfl, cvt⟩, ⟨rfl, _, rfl, cvt⟩, trivial⟩ ⟨obs rfl, trivial⟩
           ·(try simp only []); first | omega | grind
          ·refine sq (rg [] rfl ?_)
           refine WP.ret ?_
           change Fin ..
           have he : endO (lastO (funAt p i)) = false := endO_no (by rw [← ho]; exact h24) (by rw [← ho]; exact h25) (by rw [← ho]; exact h26)
           exact fin_spot (e := 39) (a := i) (b := IntKind.i64.wrap (((funAt p i).code.length : Int) - 1)) (by
             rw [wrap_id (by omega) (by omega)]
             exact check_at hw hil hn (by rw [funE, if_neg (by rw [hb]; decide), if_neg (fun h => h hs), if_neg (fun h => h (fstE_all hc)), if_neg (by rw [he]; decide)]) (by decide)) rfl rfl rfl rfl rfl rfl (conv_eq (agg_ext (fun q => by match q with | 0 | 1 | q + 2 => rfl)))
   ·have hil : i = p.funcs.length := by simp at h5; omega
    subst hil
    refine xt (sq (rg [] rfl ?_))
    refine WP.ret ?_
    change Fin ..
    exact fin_spot (e := 0) (a := 0) (b := 0) (check_ok hw hn) rfl rfl rfl rfl rfl rfl (conv_eq rfl)
end Go.Ab


/- States of the machine: what they are; what is written into them. -/
set_option autoImplicit false
set_option maxRecDepth 20000
set_option maxHeartbeats 1000000
set_option linter.unusedSimpArgs false
set_option linter.unusedVariables false
namespace Go.Ab
open Go.Proofs
structure PGo where
  status : Int
  func : Int
  pc : Int
  why : Int
  regs : List Int
  deriving DecidableEq
structure PChan where
  buf : List Int
  len : Int
  closed : Bool
  offer : Int
  frm : Int
  val : Int
  deriving DecidableEq
structure PSt where
  vars : List Int
  owner : List Int
  chans : List PChan
  gos : List PGo
  count : Int
  deriving DecidableEq
def go0 : PGo := ⟨0, 0, 0, 0, [0, 0, 0, 0, 0, 0, 0, 0]⟩
def ch0 : PChan := ⟨[0, 0, 0, 0], 0, false, 0, 0, 0⟩
def st0 : PSt := ⟨[0, 0, 0, 0, 0, 0, 0, 0], [0, 0, 0, 0], [ch0, ch0, ch0, ch0], [go0, go0, go0, go0, go0, go0], 0⟩
def okGo (g : PGo) : Prop := g.regs.length = 8
def okCh (c : PChan) : Prop := c.buf.length = 4
structure OkS (s : PSt) : Prop where
  vars : s.vars.length = 8
  owner : s.owner.length = 4
  chans : s.chans.length = 4
  gos : s.gos.length = 6
  ch : ∀ c ∈ s.chans, okCh c
  go : ∀ g ∈ s.gos, okGo g
def encGo (g : PGo) : AV := stru 59 [.int g.status, .int g.func, .int g.pc, .int g.why, arrI 52 8 .i64 g.regs]
def encCh (c : PChan) : AV := stru 56 [arrI 54 4 .i64 c.buf, .int c.len, .bool c.closed, .int c.offer, .int c.frm, .int c.val]
def aggL {α : Type} (t n : Nat) (enc : α → AV) (d : α) (l : List α) : AV := .agg t n (fun i => enc (l.getD i d))
def encS (s : PSt) : AV := stru 62 [arrI 52 8 .i64 s.vars, arrI 53 4 .i64 s.owner, aggL 57 4 encCh ch0 s.chans, aggL 60 6 encGo go0 s.gos, .int s.count]
theorem aggL_put {α : Type} {t n k : Nat} {enc : α → AV} {d x : α} {l : List α} {p : List Nat} {y : AV} (h : k < l.length) (e : (enc (l.getD k d)).put p y = enc x) : (aggL t n enc d l).put (k :: p) y = aggL t n enc d (l.set k x) := by
  simp only [aggL, AV.put, AV.agg.injEq, true_and]
  funext j
  cases hz : Nat.beq j k with
  | true =>
    have := Nat.eq_of_beq_eq_true hz
    subst this
    simp only [cond_true]
    rw [e]
    simp [h]
  | false =>
    have : ¬ k = j := fun e => by subst e; simp at hz
    simp [this]
theorem okIds_S (ids : List Id) (s : PSt) : okIds ids (encS s) = true := rfl
theorem putGo_status (g : PGo) (x : Int) : (encGo g).put [0] (.int x) = encGo { g with status := x } := stru_put (Nat.le_of_ble_eq_true rfl)
theorem putGo_pc (g : PGo) (x : Int) : (encGo g).put [2] (.int x) = encGo { g with pc := x } := stru_put (Nat.le_of_ble_eq_true rfl)
theorem putGo_why (g : PGo) (x : Int) : (encGo g).put [3] (.int x) = encGo { g with why := x } := stru_put (Nat.le_of_ble_eq_true rfl)
theorem putGo_reg {g : PGo} {k : Nat} (x : Int) (h : k < g.regs.length) : (encGo g).put [4, k] (.int x) = encGo { g with regs := g.regs.set k x } := (stru_put (Nat.le_of_ble_eq_true rfl)).trans (by rw [show ([AV.int g.status, .int g.func, .int g.pc, .int g.why, arrI 52 8 .i64 g.regs].getD 4 .bad) = arrI 52 8 .i64 g.regs from rfl, arrI_put h]; rfl)
theorem putGo_regs (g : PGo) (l : List Int) : (encGo g).put [4] (arrI 52 8 .i64 l) = encGo { g with regs := l } := stru_put (Nat.le_of_ble_eq_true rfl)
theorem putGo (g x : PGo) : (encGo g).put [] (encGo x) = encGo x := by cases g; rfl
theorem putCh_buf {c : PChan} {k : Nat} (x : Int) (h : k < c.buf.length) : (encCh c).put [0, k] (.int x) = encCh { c with buf := c.buf.set k x } := (stru_put (Nat.le_of_ble_eq_true rfl)).trans (by rw [show ([arrI 54 4 .i64 c.buf, AV.int c.len, .bool c.closed, .int c.offer, .int c.frm, .int c.val].getD 0 .bad) = arrI 54 4 .i64 c.buf from rfl, arrI_put h]; rfl)
theorem putCh_len (c : PChan) (x : Int) : (encCh c).put [1] (.int x) = encCh { c with len := x } := stru_put (Nat.le_of_ble_eq_true rfl)
theorem putCh_closed (c : PChan) (x : Bool) : (encCh c).put [2] (.bool x) = encCh { c with closed := x } := stru_put (Nat.le_of_ble_eq_true rfl)
theorem putCh_offer (c : PChan) (x : Int) : (encCh c).put [3] (.int x) = encCh { c with offer := x } := stru_put (Nat.le_of_ble_eq_true rfl)
theorem putCh_frm (c : PChan) (x : Int) : (encCh c).put [4] (.int x) = encCh { c with frm := x } := stru_put (Nat.le_of_ble_eq_true rfl)
theorem putCh_val (c : PChan) (x : Int) : (encCh c).put [5] (.int x) = encCh { c with val := x } := stru_put (Nat.le_of_ble_eq_true rfl)
theorem putS_var {s : PSt} {k : Nat} (x : Int) (h : k < s.vars.length) : (encS s).put [0, k] (.int x) = encS { s with vars := s.vars.set k x } := (stru_put (Nat.le_of_ble_eq_true rfl)).trans (congrArg (fun z => stru 62 [z, arrI 53 4 .i64 s.owner, aggL 57 4 encCh ch0 s.chans, aggL 60 6 encGo go0 s.gos, .int s.count]) (arrI_put h))
theorem putS_own {s : PSt} {k : Nat} (x : Int) (h : k < s.owner.length) : (encS s).put [1, k] (.int x) = encS { s with owner := s.owner.set k x } := (stru_put (Nat.le_of_ble_eq_true rfl)).trans (congrArg (fun z => stru 62 [arrI 52 8 .i64 s.vars, z, aggL 57 4 encCh ch0 s.chans, aggL 60 6 encGo go0 s.gos, .int s.count]) (arrI_put h))
theorem putS_ch {s : PSt} {k : Nat} {p : List Nat} {y : AV} {c : PChan} (h : k < s.chans.length) (e : (encCh (s.chans.getD k ch0)).put p y = encCh c) : (encS s).put (2 :: k :: p) y = encS { s with chans := s.chans.set k c } := (stru_put (Nat.le_of_ble_eq_true rfl)).trans (congrArg (fun z => stru 62 [arrI 52 8 .i64 s.vars, arrI 53 4 .i64 s.owner, z, aggL 60 6 encGo go0 s.gos, .int s.count]) (aggL_put h e))
theorem putS_go {s : PSt} {k : Nat} {p : List Nat} {y : AV} {g : PGo} (h : k < s.gos.length) (e : (encGo (s.gos.getD k go0)).put p y = encGo g) : (encS s).put (3 :: k :: p) y = encS { s with gos := s.gos.set k g } := (stru_put (Nat.le_of_ble_eq_true rfl)).trans (congrArg (fun z => stru 62 [arrI 52 8 .i64 s.vars, arrI 53 4 .i64 s.owner, aggL 57 4 encCh ch0 s.chans, z, .int s.count]) (aggL_put h e))
theorem putS_count (s : PSt) (x : Int) : (encS s).put [4] (.int x) = encS { s with count := x } := stru_put (Nat.le_of_ble_eq_true rfl)
theorem putS (s t : PSt) : (encS s).put [] (encS t) = encS t := by cases s; rfl
abbrev goI (s : PSt) (g : Int) : PGo := s.gos.getD g.toNat go0
abbrev chI (s : PSt) (c : Int) : PChan := s.chans.getD c.toNat ch0
abbrev varI (s : PSt) (v : Int) : Int := s.vars.getD v.toNat 0
abbrev lckI (s : PSt) (v : Int) : Int := s.owner.getD v.toNat 0
abbrev regI (g : PGo) (r : Int) : Int := g.regs.getD r.toNat 0
theorem ok_st0 : OkS st0 := ⟨rfl, rfl, rfl, rfl, by simp [st0, ch0, okCh], by simp [st0, go0, okGo]⟩
end Go.Ab


/- What is so of a program that is right. -/
set_option autoImplicit false
set_option maxRecDepth 20000
set_option maxHeartbeats 1000000
set_option linter.unusedSimpArgs false
set_option linter.unusedVariables false
namespace Go.Ab
open Go.Proofs
def rightB (p : PProg) : Bool := (checkF p).1 == 0
theorem fstE_zero {α : Type} {g : α → Int} : ∀ {l : List α}, fstE g l = 0 → ∀ x ∈ l, g x = 0
  | y :: r, h, x, hx => by
    rw [fstE] at h
    split at h
    · rename_i hne; exact absurd h hne
    · rename_i hz
      rcases List.mem_cons.1 hx with rfl | hx
      · simpa using hz
      · exact fstE_zero h x hx
theorem progFrom_zero {p : PProg} : ∀ {n i : Nat}, (progFrom p n i).1 = 0 → ∀ j, i ≤ j → j < i + n → (funE p (funAt p j) (j == 0)).1 = 0
  | 0, i, _, j, h1, h2 => by omega
  | n + 1, i, h, j, h1, h2 => by
    rw [progFrom] at h
    split at h
    · rename_i hne; exact absurd h hne
    · rename_i hz
      by_cases e : j = i
      · subst e; simpa using hz
      · exact progFrom_zero h j (by omega) (by omega)
def regP (f : PFun) (n : Int) : Prop := 0 ≤ n ∧ n < f.regs
def bndP (n : Int) (m : Nat) : Prop := 0 ≤ n ∧ n < m
structure InsP (p : PProg) (f : PFun) (x : PIns) : Prop where
  op : locB x.op = true ∨ visB x.op = true
  num : 1 ≤ x.op ∧ x.op ≤ 36 → regP f x.a ∧ regP f x.b
  num2 : 16 ≤ x.op ∧ x.op ≤ 36 → regP f x.c
  const : x.op = 40 ∨ x.op = 44 ∨ x.op = 65 ∨ x.op = 63 ∨ x.op = 43 → regP f x.a
  move : x.op = 41 → regP f x.a ∧ regP f x.b
  jump : x.op = 42 → bndP x.a f.code.length
  cond : x.op = 43 → bndP x.b f.code.length
  load : x.op = 50 → regP f x.a ∧ bndP x.b p.vars.length
  store : x.op = 51 ∨ x.op = 54 → regP f x.b ∧ bndP x.a p.vars.length
  bump : x.op = 52 → (x.a = -1 ∨ regP f x.a) ∧ bndP x.b p.vars.length ∧ regP f x.c
  cas : x.op = 53 → regP f x.a ∧ bndP x.b p.vars.length ∧ regP f x.c ∧ regP f x.n
  lock : x.op = 55 ∨ x.op = 56 → 0 ≤ x.a ∧ x.a < p.locks
  try_ : x.op = 57 → regP f x.a ∧ 0 ≤ x.b ∧ x.b < p.locks
  send : x.op = 58 → bndP x.a p.chans.length ∧ regP f x.b
  recv : x.op = 59 → (x.a = -1 ∨ regP f x.a) ∧ bndP x.b p.chans.length ∧ (x.c = -1 ∨ regP f x.c)
  close : x.op = 60 → bndP x.a p.chans.length
  sel : x.op = 61 → bndP x.a f.sels.length
  spawn : x.op = 62 → (x.a = -1 ∨ regP f x.a) ∧ bndP x.b p.funcs.length ∧ (∀ g, g = p.funcs.getD x.b.toNat fun0 → (g.params = 0 ∧ x.c = 0) ∨ 0 < g.params ∧ 0 ≤ x.c ∧ (x.c ≤ IntKind.i64.wrap (f.regs - g.params)))
theorem errTo_zero {p : PProg} {f : PFun} {x : PIns} : ∀ {n : Nat}, errTo p f x n = 0 → ∀ k, k < n → opndF p f (letF x.op k) ((opL x).getD k 0) x = 0
  | n + 1, h, k, hk => by
    rw [errTo] at h
    split at h
    · rename_i hne; exact absurd h hne
    · rename_i hz
      by_cases e : k = n
      · subst e; exact h
      · exact errTo_zero (by simpa using hz) k (by omega)
theorem regF_ok {f : PFun} {n : Int} (h : regF f n = 0) : regP f n := by
  unfold regF at h
  split at h
  · rename_i hw; simpa [withinB, regP] using hw
  · cases h
theorem tgtF_ok {f : PFun} {n : Int} (h : tgtF f n = 0) : bndP n f.code.length := by
  unfold tgtF at h
  split at h
  · rename_i hw; simpa [withinB, bndP] using hw
  · cases h
theorem atomF_ok {p : PProg} {n : Int} (h : atomF p n = 0) : bndP n p.vars.length := by
  unfold atomF at h
  split at h
  · rename_i hw; simpa [withinB, bndP] using hw
  · cases h
theorem parF_ok {f : PFun} {n k : Int} (h : parF f n k = 0) : (k = 0 ∧ n = 0) ∨ k < 0 ∨ (0 < k ∧ 0 ≤ n ∧ n ≤ IntKind.i64.wrap (f.regs - k)) := by
  unfold parF at h
  split at h
  · cases h
  · rename_i hz
    simp at hz
    omega
theorem opnd_l {p : PProg} {f : PFun} {x : PIns} {c n : Int} (h : opndF p f c n x = 0) :
    (c = 111 → n = -1 ∨ regP f n) ∧ (c = 114 → regP f n) ∧ (c = 119 → regP f n) ∧ (c = 118 → bndP n p.vars.length) ∧ (c = 97 → bndP n p.vars.length) ∧ (c = 108 → 0 ≤ n ∧ n < p.locks) ∧ (c = 99 → bndP n p.chans.length) ∧
    (c = 115 → bndP n f.sels.length) ∧ (c = 102 → bndP n p.funcs.length) ∧ (c = 116 → bndP n f.code.length) ∧ (c = 112 → parF f n (p.funcs.getD x.b.toNat fun0).params = 0) := by
  refine ⟨?_, ?_, ?_, ?_, ?_, ?_, ?_, ?_, ?_, ?_, ?_⟩ <;> (intro e; subst e; simp [opndF] at h)
  · by_cases e : n = -1
    · exact .inl e
    · exact .inr (regF_ok (by simpa [e] using h))
  · exact regF_ok h
  · exact regF_ok h
  · exact objF_ok h
  · exact atomF_ok h
  · exact objF_ok h
  · exact objF_ok h
  · exact objF_ok h
  · exact objF_ok h
  · exact tgtF_ok h
  · exact h
theorem ins_ok {p : PProg} {f : PFun} {x : PIns} (hf : ∀ g ∈ p.funcs, 0 ≤ g.params) (h : instrF p f x = 0) : InsP p f x := by
  have hne : formL x.op ≠ [] := by
    intro e; simp [instrF, e] at h
  have he : errTo p f x 4 = 0 := by
    unfold instrF at h
    rw [if_neg hne] at h
    split at h
    · cases h
    · exact h
  have hl : ∀ k, k < 4 → letF x.op k = (((formL x.op)[k]?.getD 0).toNat : Nat) := fun k _ => let_at _ _
  have H : ∀ k, k < 4 → ∀ c : Int, (((formL x.op)[k]?.getD 0).toNat : Nat) = c → opndF p f c ((opL x).getD k 0) x = 0 := fun k hk c hc => by
    have := errTo_zero he k hk
    rwa [hl k hk, hc] at this
  have hop : (1 ≤ x.op ∧ x.op ≤ 36) ∨ (40 ≤ x.op ∧ x.op ≤ 45) ∨ (50 ≤ x.op ∧ x.op ≤ 65) := by
    revert hne
    refine form_ind (Q := fun l => l ≠ [] → _) x.op ?_ ?_ ?_ ?_ ?_ ?_ ?_ ?_ ?_ ?_ ?_ ?_ ?_ ?_ ?_ ?_ ?_ ?_ ?_ ?_ ?_
    all_goals first | (intro h1 _; omega) | (intro _ h1; exact absurd rfl h1)
  have h0 := fun c hc => H 0 (by decide) c hc
  have h1 := fun c hc => H 1 (by decide) c hc
  have h2 := fun c hc => H 2 (by decide) c hc
  have h3 := fun c hc => H 3 (by decide) c hc
  have e0 : (opL x).getD 0 0 = x.a := rfl
  have e1 : (opL x).getD 1 0 = x.b := rfl
  have e2 : (opL x).getD 2 0 = x.c := rfl
  have e3 : (opL x).getD 3 0 = x.n := rfl
  rw [e0] at h0; rw [e1] at h1; rw [e2] at h2; rw [e3] at h3
  have F1 : 1 ≤ x.op ∧ x.op ≤ 15 → formL x.op = [114, 114, 45, 45] := fun h => by rw [formL, if_pos h]
  have F2 : 16 ≤ x.op ∧ x.op ≤ 36 → formL x.op = [114, 114, 114, 45] := fun h => by rw [formL, if_neg (by omega), if_pos h]
  have R := fun n h => (opnd_l (p := p) (f := f) (x := x) (c := 114) (n := n) h).2.1 rfl
  refine ⟨?_, ?_, ?_, ?_, ?_, ?_, ?_, ?_, ?_, ?_, ?_, ?_, ?_, ?_, ?_, ?_, ?_, ?_⟩
  · simp [locB, visB]; omega
  · intro h
    rcases Int.lt_or_le 15 x.op with h15 | h15
    · have e := F2 (by omega)
      exact ⟨R _ (h0 114 (by rw [e]; rfl)), R _ (h1 114 (by rw [e]; rfl))⟩
    · have e := F1 (by omega)
      exact ⟨R _ (h0 114 (by rw [e]; rfl)), R _ (h1 114 (by rw [e]; rfl))⟩
  · intro h
    have e := F2 h
    exact R _ (h2 114 (by rw [e]; rfl))
  · rintro (h | h | h | h | h) <;> exact R _ (h0 114 (by rw [h]; rfl))
  · intro h; exact ⟨R _ (h0 114 (by rw [h]; rfl)), R _ (h1 114 (by rw [h]; rfl))⟩
  · intro h; exact (opnd_l (h0 116 (by rw [h]; rfl))).2.2.2.2.2.2.2.2.2.1 rfl
  · intro h; exact (opnd_l (h1 116 (by rw [h]; rfl))).2.2.2.2.2.2.2.2.2.1 rfl
  · intro h; exact ⟨R _ (h0 114 (by rw [h]; rfl)), (opnd_l (h1 118 (by rw [h]; rfl))).2.2.2.1 rfl⟩
  · rintro (h | h)
    · exact ⟨R _ (h1 114 (by rw [h]; rfl)), (opnd_l (h0 118 (by rw [h]; rfl))).2.2.2.1 rfl⟩
    · exact ⟨R _ (h1 114 (by rw [h]; rfl)), (opnd_l (h0 97 (by rw [h]; rfl))).2.2.2.2.1 rfl⟩
  · intro h; exact ⟨(opnd_l (h0 111 (by rw [h]; rfl))).1 rfl, (opnd_l (h1 97 (by rw [h]; rfl))).2.2.2.2.1 rfl, R _ (h2 114 (by rw [h]; rfl))⟩
  · intro h; exact ⟨R _ (h0 114 (by rw [h]; rfl)), (opnd_l (h1 97 (by rw [h]; rfl))).2.2.2.2.1 rfl, R _ (h2 114 (by rw [h]; rfl)), (opnd_l (h3 119 (by rw [h]; rfl))).2.2.1 rfl⟩
  · rintro (h | h) <;> exact (opnd_l (h0 108 (by rw [h]; rfl))).2.2.2.2.2.1 rfl
  · intro h; exact ⟨R _ (h0 114 (by rw [h]; rfl)), (opnd_l (h1 108 (by rw [h]; rfl))).2.2.2.2.2.1 rfl⟩
  · intro h; exact ⟨(opnd_l (h0 99 (by rw [h]; rfl))).2.2.2.2.2.2.1 rfl, R _ (h1 114 (by rw [h]; rfl))⟩
  · intro h; exact ⟨(opnd_l (h0 111 (by rw [h]; rfl))).1 rfl, (opnd_l (h1 99 (by rw [h]; rfl))).2.2.2.2.2.2.1 rfl, (opnd_l (h2 111 (by rw [h]; rfl))).1 rfl⟩
  · intro h; exact (opnd_l (h0 99 (by rw [h]; rfl))).2.2.2.2.2.2.1 rfl
  · intro h; exact (opnd_l (h0 115 (by rw [h]; rfl))).2.2.2.2.2.2.2.1 rfl
  · intro h
    have hb := (opnd_l (h1 102 (by rw [h]; rfl))).2.2.2.2.2.2.2.2.1 rfl
    refine ⟨(opnd_l (h0 111 (by rw [h]; rfl))).1 rfl, hb, fun g hg => ?_⟩
    have hp := parF_ok ((opnd_l (h2 112 (by rw [h]; rfl))).2.2.2.2.2.2.2.2.2.2 rfl)
    rw [← hg] at hp
    have hm : g ∈ p.funcs := by
      have hlt : x.b.toNat < p.funcs.length := by have := hb.1; have := hb.2; omega
      rw [hg, List.getD_eq_getElem?_getD, List.getElem?_eq_getElem hlt]
      exact List.getElem_mem hlt
    have := hf g hm
    omega
structure CaseP (p : PProg) (f : PFun) (c : PCase) : Prop where
  chan : bndP c.chan p.chans.length
  reg : (c.send = true ∨ c.reg ≠ -1) → regP f c.reg
  cap : c.send = true → p.chans.getD c.chan.toNat 0 ≠ 0
  to : bndP c.to f.code.length
structure SelP (p : PProg) (f : PFun) (s : PSel) : Prop where
  len : 1 ≤ s.cases.length ∧ s.cases.length ≤ 4
  case : ∀ c ∈ s.cases, CaseP p f c
  els : s.els ≠ -1 → bndP s.els f.code.length
structure FunP (p : PProg) (f : PFun) : Prop where
  regs : 0 ≤ f.regs ∧ f.regs ≤ 8
  pars : 0 ≤ f.params ∧ f.params ≤ f.regs
  code : 1 ≤ f.code.length ∧ f.code.length ≤ 64
  sels : f.sels.length ≤ 4
  ins : ∀ x ∈ f.code, InsP p f x
  sel : ∀ s ∈ f.sels, SelP p f s
  last : endO (lastO f) = true
structure ProgP (p : PProg) : Prop where
  vars : p.vars.length ≤ 8
  locks : 0 ≤ p.locks ∧ p.locks ≤ 4
  chans : p.chans.length ≤ 4
  caps : ∀ n ∈ p.chans, 0 ≤ n ∧ n ≤ 4
  funcs : 1 ≤ p.funcs.length ∧ p.funcs.length ≤ 8
  fn : ∀ f ∈ p.funcs, FunP p f
  main : (funAt p 0).params = 0
theorem case_ok {p : PProg} {f : PFun} {c : PCase} (h : caseF p f c = 0) : CaseP p f c := by
  unfold caseF at h
  split at h
  · cases h
  · rename_i h1
    split at h
    · cases h
    · rename_i h2
      split at h
      · cases h
      · rename_i h3
        refine ⟨objF_ok (by simpa using h1), fun hh => ?_, fun hs => ?_, tgtF_ok h⟩
        · refine regF_ok (Decidable.byContradiction fun hn => h2 ⟨?_, hn⟩)
          rw [Bool.or_eq_true, bne_iff_ne]; exact hh
        · intro e
          exact h3 (by rw [hs, e]; rfl)
theorem sel_ok {p : PProg} {f : PFun} {s : PSel} (hb : selB s = true) (h : selF p f s = 0) : SelP p f s := by
  unfold selF at h
  split at h
  · rename_i hne; exact absurd h hne
  · rename_i hz
    refine ⟨by simp [selB] at hb; omega, fun c hc => case_ok (fstE_zero (by simpa using hz) c hc), fun hne => ?_⟩
    unfold elseF at h
    rw [if_pos hne] at h
    exact tgtF_ok h
theorem prog_ok {p : PProg} (h : rightB p = true) : ProgP p := by
  have h0 : (checkF p).1 = 0 := by simpa [rightB] using h
  unfold checkF at h0
  split at h0
  · rename_i hne; exact absurd h0 hne
  rename_i hw
  have hw : wholeF p = 0 := by simpa using hw
  unfold wholeF at hw
  split at hw
  · cases hw
  rename_i hs
  have hsz : p.vars.length ≤ 8 ∧ (0 ≤ p.locks ∧ p.locks ≤ 4) ∧ p.chans.length ≤ 4 ∧ (1 ≤ p.funcs.length ∧ p.funcs.length ≤ 8) := by
    simp [szB] at hs; omega
  have hfz := progFrom_zero h0
  have hform : ∀ j, j < p.funcs.length → formedF (funAt p j) (j == 0) = true ∧ selsF p (funAt p j) = 0 ∧ fstE (instrF p (funAt p j)) (funAt p j).code = 0 ∧ endO (lastO (funAt p j)) = true := fun j hj => by
    have := hfz j (by omega) (by omega)
    unfold funE at this
    split at this
    · cases this
    · rename_i h1
      split at this
      · rename_i h2; exact absurd this h2
      · rename_i h2
        split at this
        · rename_i h3; exact absurd this h3
        · rename_i h3
          split at this
          · rename_i h4
            exact ⟨by simpa using h1, by simpa using h2, by simpa using h3, h4⟩
          · cases this
  have hsf : ∀ j, j < p.funcs.length → szF (funAt p j) (j == 0) = true ∧ selTo (funAt p j) (funAt p j).sels.length = true := fun j hj => by
    have := (hform j hj).1
    simpa [formedF] using this
  have hidx : ∀ f ∈ p.funcs, ∃ j, j < p.funcs.length ∧ f = funAt p j := fun f hf => by
    obtain ⟨j, hj, e⟩ := List.getElem_of_mem hf
    exact ⟨j, hj, by simp [funAt, hj, e]⟩
  have hpar : ∀ g ∈ p.funcs, 0 ≤ g.params := fun g hg => by
    obtain ⟨j, hj, rfl⟩ := hidx g hg
    have := szF_iff.1 (hsf j hj).1
    omega
  refine ⟨hsz.1, hsz.2.1, hsz.2.2.1, fun n hn => ?_, hsz.2.2.2, fun f hf => ?_, ?_⟩
  · have := fstE_zero hw n hn
    unfold chanF at this
    split at this
    · cases this
    · rename_i h1; simp at h1; omega
  · obtain ⟨j, hj, rfl⟩ := hidx f hf
    have h1 := szF_iff.1 (hsf j hj).1
    have h2 := hform j hj
    refine ⟨by omega, by omega, by omega, by omega, fun x hx => ins_ok hpar (fstE_zero h2.2.2.1 x hx), fun s hs => ?_, h2.2.2.2⟩
    obtain ⟨k, hk, e⟩ := List.getElem_of_mem hs
    have h3 := selTo_at (hsf j hj).2 k hk
    have e' : (funAt p j).sels.getD k sel0 = s := by rw [List.getD_eq_getElem?_getD, List.getElem?_eq_getElem hk, e]; rfl
    rw [e'] at h3
    exact sel_ok h3 (fstE_zero h2.2.1 s hs)
  · have := szF_iff.1 (hsf 0 (by omega)).1
    have h5 : ¬ ((0 == 0) = true ∧ (funAt p 0).params > 0) := this.2.2.2.2.1
    have h6 : ¬ (funAt p 0).params > 0 := fun h => h5 ⟨rfl, h⟩
    omega
end Go.Ab


/- Ab, part 49: whether a row is nil is not known: both answers. -/
set_option autoImplicit false
set_option linter.unusedVariables false
namespace Go.Ab
section
variable {R : Option Nat → Bool → Prop} {P : Program} {T : Nat → TI} {N nt nb : Nat} {post : Post}
theorem conv_nils {m : Id → Option Ob} {F : Id → Nat} {id : Id} {cap : Option Nat} : Conv m F T .nils (.own id 0 0 0 cap) := Or.inr ⟨rfl, .inl ⟨_, _, rfl⟩⟩
theorem WP.nilreg (hT : TOK P T N) (hE : EqOK P T N) {id : Nat} {ops : Array Oper} {o : Oper} {l : List Oper} {t t1 : Nat → Option (D × AV)} {m m1 : Id → Option Ob} {gs gs' : List CG} {c : Option Prop} {ty k3 k4 yt : Nat} {e len el : Nat} {f : Bool} {g : Nat → AV}
    (hl : ops.toList = l ++ [o]) (h : evF T (AC P T N) nt ops.toList l t m gs none = some ⟨⟨t1, m1⟩, gs', c⟩) (hc : holdsC c)
    (ho : o.op = .binOp .eql ty (.tmp k3) (.const (.slice none 0 0)) yt) (hd : o.dst = some k4) (hg : o.guard = none) (hnt : dstOk nt (some k4) = true) (ht : t1 k3 = some (.always, .row e f len g)) (hk : (T ty).kind = .slice el)
    (hp : ∀ b, post .normal ⟨setT t1 k4 (some (.always, .v (.bool b))), m1⟩) : WP R P T N nt nb (.region id ops false) post ⟨t, m⟩ := fun en h1 h2 I ρ a w hs rd hr n => by
  subst h1
  rw [evF_eq] at h
  have hgd : ∀ st, guardD ops.toList st o = some .always := fun st => by unfold guardD; rw [hg]
  refine wpIn_region_list ?_
  have hh : wpListIn (wideR rd) n P ops (fun ex a' w' => ∃ st' I' ρ', post ex st' ∧ StRep T N en I' ρ' st' a' w') (l ++ [o]) a w := by
    refine (evL_k (l2 := [o]) hT hE rd n l ⟨⟨t, m⟩, gs, none⟩ ⟨⟨t1, m1⟩, gs', c⟩ hs h hc (fun I' ρ' a' w' hs' => ?_)).2
    have hwant := guardD_wanted hs' (hgd ⟨t1, m1⟩)
    unfold wpListIn
    rw [if_pos (hwant.1 trivial)]
    refine ⟨fun _ _ => trivial, ?_⟩
    rw [Oper.semAt_eq _ _ _ (by simp [ho])]
    have hrow := ((hs'.tm k3 _ _ ht).1 trivial).rep1 (fun _ => by simp)
    have hu := (hT.sli hk).2
    have key : ∀ (v : Value) (sp : Option Addr) (ln cp : Nat), v = .slice sp ln cp → a'.eval (.tmp k3) = v → ∃ b, (do eqGuard .eql ty (.tmp k3) (.const (.slice none 0 0)) (a'.eval (.tmp k3)) (a'.eval (.const (.slice none 0 0))); binOp .eql ty (a'.eval (.tmp k3)) (a'.eval (.const (.slice none 0 0))) : Sem Value).run P w' = .ok (.bool b) w' := by
      rintro v sp ln cp rfl ev
      refine ⟨sp.isNone && true, ?_⟩
      have e2 : a'.eval (.const (.slice none 0 0)) = .slice none 0 0 := rfl
      rw [ev, e2]
      have hgg := run_eqGuard_scalar (P := P) (a := .slice sp ln cp) (b := .slice none 0 0) .eql ty (.tmp k3) (.const (.slice none 0 0)) (by simp) (by simp) w'
      simp only [Sem.run_bind, hgg, Result.andThen_ok, binOp]
      rw [run_equal_slices hu w' sp none ln cp 0 0 (.inr rfl)]
      rfl
    have hev : ∃ b, (do eqGuard .eql ty (.tmp k3) (.const (.slice none 0 0)) (a'.eval (.tmp k3)) (a'.eval (.const (.slice none 0 0))); binOp .eql ty (a'.eval (.tmp k3)) (a'.eval (.const (.slice none 0 0))) : Sem Value).run P w' = .ok (.bool b) w' := by
      rcases Rep.row_inv hrow with ⟨⟨ad, ex⟩, _, _⟩ | ⟨b, off, cap, segs, _, _, _, _, _, _, _, _, ex⟩
      · exact key _ _ _ _ ex rfl
      · exact key _ _ _ _ ex rfl
    obtain ⟨b, hb⟩ := hev
    have hrun : (execOp a'.eval o).run P w' = .ok (.value (.bool b)) w' := by
      unfold execOp
      rw [ho]
      exact runNext_value hb
    rw [hrun]
    refine ⟨_, I', ρ', hp b, ?_⟩
    have := strep_after (o := o) (G := .always) (r := ⟨.v (.bool b), [], [], none⟩) (v := .bool b) hs' (by rw [hd]; exact hnt) (.inr ⟨fun _ => repV_v rfl, fun h => absurd trivial h⟩) (Ev.refl _ _ _) hs'.wr
    have e3 : (St.after ⟨t1, m1⟩ o .always ⟨.v (.bool b), [], [], none⟩) = ⟨setT t1 k4 (some (.always, .v (.bool b))), m1⟩ := by
      simp only [St.after, St.put, hd, appM]
    rw [e3] at this
    exact this
  rw [← hl] at hh
  exact hh
theorem AC.ent {f : FuncId} {args : List AV} {B : List Ob} {r r2 : AV} {B' B2 : List Ob} (h : AC P T N f args B r B') (hent : Ent T N 1 B.length (mkSt [(0, r)] (mkB 0 B')) (mkSt [(0, r2)] (mkB 0 B2))) : AC P T N f args B r2 B2 := by
  refine ⟨h.1, fun I ρ w vs hl hvs hw => (h.2 I ρ w vs hl hvs hw).mono ?_⟩
  rintro e w' ⟨v, I', ρ', he, h1, h2, h3⟩
  have hm : ∀ B : List Ob, (mkSt [(0, r)] (mkB 0 B)).m = ofB B := fun B => mkB_ofB B
  have hm2 : ∀ B : List Ob, (mkSt [(0, r2)] (mkB 0 B)).m = ofB B := fun B => mkB_ofB B
  have hst : StRep T N ⟨I, ρ, w, 1, B.length, false⟩ I' ρ' (mkSt [(0, r)] (mkB 0 B')) { tmps := #[v], defers := [] } w' := by
    refine ⟨by rw [hm]; exact h3, fun t d x ht => ?_, rfl, ⟨Marks.nil, fun _ => rfl⟩, h1, fun id p hp => ?_⟩
    · simp only [mkSt, Option.map_eq_some_iff, Prod.mk.injEq] at ht
      obtain ⟨x0, k1, rfl, rfl⟩ := ht
      simp only [lookN] at k1
      cases hb : Nat.beq t 0 with
      | false => rw [hb] at k1; cases k1
      | true =>
        rw [hb] at k1
        cases k1
        obtain rfl := Nat.eq_of_beq_eq_true hb
        exact ⟨fun _ => h2, fun h => absurd trivial h⟩
    · have := hw.dom id p hp
      cases id with
      | s a b => exact absurd rfl this
      | b j =>
        refine ⟨j, ?_, rfl⟩
        cases hj : B[j]? with
        | none => simp [ofB, hj] at this
        | some o => exact (List.getElem?_eq_some_iff.1 hj).1
  obtain ⟨I2, ρ2, hs2⟩ := hent _ rfl rfl I' ρ' _ w' hst
  refine ⟨v, I2, ρ2, he, hs2.ev, ?_, ?_⟩
  · exact (hs2.tm 0 .always r2 rfl).1 trivial
  · have := hs2.wr
    rwa [hm2] at this
end
end Go.Ab

/- Ab, part 50: more short words. -/
set_option autoImplicit false
set_option linter.unusedVariables false
namespace Go.Ab
section
variable {T : Nat → TI}
theorem sF {st : St} {id : Id} {B : Blk} (h : st.m id = some (.cells B) := by rfl) (hk : 1 ≤ B.n := by exact Nat.le_refl _) : ∃ B, st.m id = some (.cells B) ∧ 1 ≤ B.n := ⟨B, h, hk⟩
theorem rpv {m : Id → Option Ob} {F : Id → Nat} {id : Id} {n i : Nat} {p : List Nat} {t : Nat} {y : AV} {B : Blk} (hm : m id = some (.cells B) := by rfl) (hn : B.n = n := by rfl) (hF : i < F id := by decide) (ht : pathTy T B.ty p = some t := by rfl) (hy : (B.get i).at p = y := by rfl) (hno : noIds y = true := by rfl) : Conv m F T (.ptr id n i p) (.rp t y) := conv_rpe hm hn hF ht hy hno
theorem q0 {Q : Nat → Prop} (h : Q 0) : ∀ q, q < 1 → Q q := fun q hq => by obtain rfl : q = 0 := Nat.lt_one_iff.1 hq; exact h
end
end Go.Ab

/- States of a program: what fits. -/
set_option autoImplicit false
set_option maxRecDepth 20000
set_option maxHeartbeats 4000000
set_option linter.unusedSimpArgs false
set_option linter.unusedVariables false
namespace Go.Ab
open Go.Proofs
def mayB (w o : Int) : Bool := decide ((w = 1 ∧ o = 44) ∨ (w = 2 ∧ (o = 19 ∨ o = 20)) ∨ (w = 3 ∧ 25 ≤ o ∧ o ≤ 27) ∨ (w = 4 ∧ (o = 58 ∨ o = 61)) ∨ (w = 5 ∧ o = 60) ∨ (w = 6 ∧ o = 56) ∨ (w = 7 ∧ o = 63) ∨ (w = 8 ∧ o = 62))
theorem may_ac (w o : Int) : AC Tryz.prog T tysN 237 [.int w, .int o] [] (.bool (mayB w o)) [] := by
 refine AC_intro hT Tryz.func237 rfl rfl (Nat.le_of_ble_eq_true rfl) ?_
 refine sq (rg [] rfl ?_)
 refine sq (sq (rg [] rfl ?_))
 refine bk (sq (rg [] rfl ?_))
 refine cd rfl (fun h2 => ?_) (fun h2 => ?_)
 ·refine sq (rg [] rfl ?_)
  refine WP.ret ?_
  change Fin ..
  refine fin1 hT (by rfl) ?_
  try simp only [bor, band]
  rw [Bool.eq_iff_iff]
  simp [mayB] at *
  omega
 ·refine sq (rg [] rfl ?_)
  refine cd rfl (fun h4 => ?_) (fun h4 => ?_)
  ·refine sq (rg [] rfl ?_)
   refine WP.ret ?_
   change Fin ..
   refine fin1 hT (by rfl) ?_
   try simp only [bor, band]
   rw [Bool.eq_iff_iff]
   simp [mayB] at *
   omega
  ·refine sq (rg [] rfl ?_)
   refine cd rfl (fun h6 => ?_) (fun h6 => ?_)
   ·refine sq (rg [] rfl ?_)
    refine WP.ret ?_
    change Fin ..
    refine fin1 hT (by rfl) ?_
    try simp only [bor, band]
    rw [Bool.eq_iff_iff]
    simp [mayB] at *
    omega
   ·refine sq (rg [] rfl ?_)
    refine cd rfl (fun h8 => ?_) (fun h8 => ?_)
    ·refine sq (rg [] rfl ?_)
     refine WP.ret ?_
     change Fin ..
     refine fin1 hT (by rfl) ?_
     try simp only [bor, band]
     rw [Bool.eq_iff_iff]
     simp [mayB] at *
     omega
    ·refine sq (rg [] rfl ?_)
     refine cd rfl (fun h10 => ?_) (fun h10 => ?_)
     ·refine sq (rg [] rfl ?_)
      refine WP.ret ?_
      change Fin ..
      refine fin1 hT (by rfl) ?_
      try simp only [bor, band]
      rw [Bool.eq_iff_iff]
      simp [mayB] at *
      omega
     ·refine sq (rg [] rfl ?_)
      refine cd rfl (fun h12 => ?_) (fun h12 => ?_)
      ·refine sq (rg [] rfl ?_)
       refine WP.ret ?_
       change Fin ..
       refine fin1 hT (by rfl) ?_
       try simp only [bor, band]
       rw [Bool.eq_iff_iff]
       simp [mayB] at *
       omega
      ·refine sq (rg [] rfl ?_)
       refine cd rfl (fun h14 => ?_) (fun h14 => ?_)
       ·refine sq (rg [] rfl ?_)
        refine WP.ret ?_
        change Fin ..
        refine fin1 hT (by rfl) ?_
        try simp only [bor, band]
        rw [Bool.eq_iff_iff]
        simp [mayB] at *
        omega
       ·refine sq (rg [] rfl ?_)
        refine cd rfl (fun h16 => ?_) (fun h16 => ?_)
        ·refine sq (rg [] rfl ?_)
         refine WP.ret ?_
         change Fin ..
         refine fin1 hT (by rfl) ?_
         try simp only [bor, band]
         rw [Bool.eq_iff_iff]
         simp [mayB] at *
         omega
        ·refine sk (sq (rg [] rfl ?_))
         refine WP.ret ?_
         change Fin ..
         refine fin1 hT (by rfl) ?_
         try simp only [bor, band]
         rw [Bool.eq_iff_iff]
         simp [mayB] at *
         omega
theorem plocal_ac (op : Int) : AC Tryz.prog T tysN 204 [.int op] [] (.bool (locB op)) [] := by
 refine AC_intro hT Tryz.func204 rfl rfl (Nat.le_of_ble_eq_true rfl) ?_
 refine sq (rg [] rfl ?_)
 refine sq (rg [] rfl ?_)
 refine WP.ret ?_
 change Fin ..
 exact fin1 hT (by rfl) (by rw [band, band, bor]; rfl)
theorem pvisible_ac (op : Int) : AC Tryz.prog T tysN 235 [.int op] [] (.bool (visB op)) [] := by
 refine AC_intro hT Tryz.func235 rfl rfl (Nat.le_of_ble_eq_true rfl) ?_
 refine sq (rg [] rfl ?_)
 refine sq (rg [] rfl ?_)
 refine WP.ret ?_
 change Fin ..
 exact fin1 hT (by rfl) (by rw [band]; rfl)
theorem sright_ac (p : PProg) : AC Tryz.prog T tysN 141 [encProg p] [] (.bool (rightB p)) [] := by
 refine AC_intro hT Tryz.func141 rfl rfl (Nat.le_of_ble_eq_true rfl) ?_
 refine sq (rg [] rfl ?_)
 refine sq (rgs [CG.pure (checkA p)] rfl ?_ ?_)
 ·have hq := pcheck_ac p
  simp only [holdsC, under, CG.pure]
  repeat' with_reducible refine And.intro ?_ ?_
  all_goals (try with_reducible intros)
  all_goals (first | exact trivial | assumption | omega | exact hq | (simp; done) | grind)
 refine sq (rg [] rfl ?_)
 refine WP.ret ?_
 change Fin ..
 exact fin1 hT rfl rfl
abbrev fnOf (p : PProg) (g : PGo) : PFun := p.funcs.getD g.func.toNat fun0
abbrev insOf (p : PProg) (g : PGo) : PIns := (fnOf p g).code.getD g.pc.toNat ins0
def fitP (p : PProg) (g : PGo) : Prop := (1 ≤ g.status ∧ g.status ≤ 5) ∧ bndP g.func p.funcs.length ∧ bndP g.pc (fnOf p g).code.length ∧
  (∀ k : Nat, k < 8 → g.regs.getD k 0 = 0 ∨ ((k : Int) < (fnOf p g).regs ∧ g.status ≠ 3 ∧ g.status ≠ 4)) ∧
  (g.status = 4 → mayB g.why (insOf p g).op = true) ∧ (g.status ≠ 4 → g.why = 0) ∧ (g.status = 3 → (insOf p g).op = 45) ∧ (g.status = 5 → locB (insOf p g).op = true)
instance (n : Int) (m : Nat) : Decidable (bndP n m) := by unfold bndP; infer_instance
instance (p : PProg) (g : PGo) : Decidable (fitP p g) := by unfold fitP; infer_instance
theorem fits_ac (p : PProg) (g : PGo) : AC Tryz.prog T tysN 189 [encProg p, encGo g] [] (.bool (decide (fitP p g))) [] := by
 refine AC_intro hT Tryz.func189 rfl rfl (Nat.le_of_ble_eq_true rfl) ?_
 refine sq (rg [] rfl ?_)
 refine sq (sq ?_)
 refine WP.ent (st' := mkSt [(2, .rp 26 (encProg p)), (3, .rp 59 (encGo g))] []) (em [(.s 2 0, 1), (.s 3 0, 1)] ⟨sF, sF, trivial⟩ ⟨⟨rfl, _, rfl, rpv⟩, ⟨rfl, _, rfl, rpv⟩, trivial⟩ trivial) ?_
 refine rg [] rfl ?_
 refine cd rfl (fun h1 => ?_) (fun h1 => ?_)
 ·simp only [bor] at h1
  refine sq (rg [] rfl ?_)
  refine WP.ret ?_
  change Fin ..
  refine fin1 hT (by rfl) (Eq.symm (decide_eq_false fun h => ?_))
  have h2 := h.1; have h3 := h.2.1; unfold bndP at h3
  simp [-List.getD_eq_getElem?_getD] at h1; omega
 ·simp only [bor] at h1
  have hh : (1 ≤ g.status ∧ g.status ≤ 5) ∧ bndP g.func p.funcs.length := by unfold bndP; simp [-List.getD_eq_getElem?_getD] at h1; omega
  refine sk (sq (rgs [] rfl ?_ ?_))
  ·have := hh.2; unfold bndP at this
   simp [-List.getD_eq_getElem?_getD, holdsC, under]; omega
  refine sq (sq ?_)
  refine WP.ent (st' := mkSt [(5, .rp 100 (encFun (fnOf p g))), (2, .rp 26 (encProg p)), (3, .rp 59 (encGo g))] []) (em [(.s 5 0, 1)] ⟨sF, trivial⟩ ⟨⟨rfl, _, rfl, rpv⟩, ⟨rfl, _, rfl, cvt⟩, ⟨rfl, _, rfl, cvt⟩, trivial⟩ trivial) ?_
  refine rg [] rfl ?_
  refine cd rfl (fun h4 => ?_) (fun h4 => ?_)
  ·simp only [bor] at h4
   refine sq (rg [] rfl ?_)
   refine WP.ret ?_
   change Fin ..
   refine fin1 hT (by rfl) (Eq.symm (decide_eq_false fun h => ?_))
   have h3 := h.2.2.1; unfold bndP at h3
   simp [-List.getD_eq_getElem?_getD] at h4; omega
  ·simp only [bor] at h4
   have hp : bndP g.pc (fnOf p g).code.length := by unfold bndP; simp [-List.getD_eq_getElem?_getD] at h4; omega
   refine sk (sq (rg [] rfl ?_))
   refine sq (sq (rg [] rfl ?_))
   refine bk ?_
   refine WP.loop (α := Nat) (fun i => mkSt [(3, .rp 59 (encGo g)), (5, .rp 100 (encFun (fnOf p g))), (6, .bool (g.status == 3 || g.status == 4)), (57, arrI 52 8 .i64 g.regs), (58, .int i)] []) (fun i => i ≤ 8 ∧ ∀ k : Nat, k < i → g.regs.getD k 0 = 0 ∨ ((k : Int) < (fnOf p g).regs ∧ g.status ≠ 3 ∧ g.status ≠ 4)) (fun i => 8 - i) ?_ ?_
   ·refine ⟨0, ?_, ?_⟩
    ·exact ⟨Nat.zero_le _, fun j hj => by omega⟩
    ·refine em [] trivial ⟨⟨rfl, _, rfl, cvt⟩, ⟨rfl, _, rfl, cvt⟩, ⟨rfl, _, rfl, conv_eq (by rw [bor])⟩, ⟨rfl, _, rfl, cvt⟩, ⟨rfl, _, rfl, cvt⟩, trivial⟩ trivial
   ·rintro i ⟨hi, hn⟩
    refine sq (rg [] rfl ?_)
    refine sq ?_
    refine cd rfl (fun h8 => ?_) (fun h8 => ?_)
    ·have hil : i < 8 := by simp [-List.getD_eq_getElem?_getD] at h8; omega
     refine sk (sq (bk (sq (rgs [] rfl ?_ ?_))))
     ·simp [-List.getD_eq_getElem?_getD, holdsC, under]; omega
     refine sq (rg [] rfl ?_)
     refine cd rfl (fun h10 => ?_) (fun h10 => ?_)
     ·simp only [bor, band] at h10
      refine sq (rg [] rfl ?_)
      refine WP.ret ?_
      change Fin ..
      refine fin1 hT (by rfl) (Eq.symm (decide_eq_false fun h => ?_))
      have h3 := h.2.2.2.1 i hil
      simp [-List.getD_eq_getElem?_getD] at h10
      rcases h3 with h3 | h3
      · exact h10.1 (by simpa using h3)
      · have := h10.2; grind
     ·simp only [bor, band] at h10
      refine sk (rg [] rfl ?_)
      refine ⟨i + 1, ?_, ?_, ?_⟩
      ·exact ⟨hil, all_succ hn (by simp [-List.getD_eq_getElem?_getD] at h10; by_cases e : g.regs.getD i 0 = 0; exact .inl e; exact .inr (by have := h10 (by simpa using e); grind))⟩
      ·refine em [] trivial ⟨⟨rfl, _, rfl, cvt⟩, ⟨rfl, _, rfl, cvt⟩, ⟨rfl, _, rfl, cvt⟩, ⟨rfl, _, rfl, cvt⟩, ⟨rfl, _, rfl, cvt⟩, trivial⟩ trivial
      ·(try simp only []); first | omega | grind
    ·have hil : i = 8 := by simp [-List.getD_eq_getElem?_getD] at h8; omega
     subst hil
     have fin : ∀ b : Bool, (b = true ↔ (g.status = 4 → mayB g.why (insOf p g).op = true) ∧ (g.status ≠ 4 → g.why = 0) ∧ (g.status = 3 → (insOf p g).op = 45) ∧ (g.status = 5 → locB (insOf p g).op = true)) → b = decide (fitP p g) := fun b hb => by
       rw [Bool.eq_iff_iff, hb, decide_eq_true_iff]
       exact ⟨fun h => ⟨hh.1, hh.2, hp, hn, h⟩, fun h => h.2.2.2.2⟩
     refine xt (sq (rgs [] rfl ?_ ?_))
     ·unfold bndP at hp
      simp [-List.getD_eq_getElem?_getD, holdsC, under]; omega
     refine sq (sq (rg [] rfl ?_))
     refine bk (sq (rg [] rfl ?_))
     refine cd rfl (fun h15 => ?_) (fun h15 => ?_)
     ·have e4 : g.status = 4 := by simpa using h15
      refine sq (rgs [CG.pure (.bool (mayB g.why (insOf p g).op))] rfl ?_ ?_)
      ·exact may_ac _ _
      refine WP.ret ?_
      change Fin ..
      refine fin1 hT (by rfl) (fin _ ?_)
      simp [e4]
     ·have e4 : g.status ≠ 4 := by simpa using h15
      refine sq (rg [] rfl ?_)
      refine cd rfl (fun h17 => ?_) (fun h17 => ?_)
      ·have e3 : g.status = 3 := by simpa using h17
       refine sq (rg [] rfl ?_)
       refine WP.ret ?_
       change Fin ..
       refine fin1 hT (by rfl) (fin _ ?_)
       simp only [band]
       simp [e3]
      ·have e3 : g.status ≠ 3 := by simpa using h17
       refine sq (rg [] rfl ?_)
       refine cd rfl (fun h19 => ?_) (fun h19 => ?_)
       ·have e5 : g.status = 5 := by simpa using h19
        refine sq (rgs [CG.pure (.bool (locB (insOf p g).op))] rfl ?_ ?_)
        ·have hq := plocal_ac (insOf p g).op
         simp only [holdsC, under, CG.pure]
         repeat' with_reducible refine And.intro ?_ ?_
         all_goals (try with_reducible intros)
         all_goals (first | exact trivial | assumption | omega | exact hq | (simp; done) | grind)
        refine WP.ret ?_
        change Fin ..
        refine fin1 hT (by rfl) (fin _ ?_)
        simp only [band]
        simp [e5]
       ·have e5 : g.status ≠ 5 := by simpa using h19
        refine sk (sq (rg [] rfl ?_))
        refine WP.ret ?_
        change Fin ..
        refine fin1 hT (by rfl) (fin _ ?_)
        simp [e4, e3, e5]
def waitP (p : PProg) (s : PSt) (g c : Int) : Prop := 0 ≤ g ∧ g < s.count ∧ (goI s g).status = 2 ∧ (insOf p (goI s g)).op = 58 ∧ (insOf p (goI s g)).a = c
instance (p : PProg) (s : PSt) (g c : Int) : Decidable (waitP p s g c) := by unfold waitP; infer_instance
def gosP (p : PProg) (s : PSt) : Prop := s.count ≤ 6 ∧ ∀ k : Nat, (k : Int) < s.count → fitP p (s.gos.getD k go0)
theorem waits_ac (p : PProg) (s : PSt) (g c : Int) (hg : gosP p s) : AC Tryz.prog T tysN 238 [encProg p, encS s, .int g, .int c] [] (.bool (decide (waitP p s g c))) [] := by
 refine AC_intro hT Tryz.func238 rfl rfl (Nat.le_of_ble_eq_true rfl) ?_
 refine sq (rg [] rfl ?_)
 refine sq (sq ?_)
 refine WP.ent (st' := mkSt [(4, .rp 26 (encProg p)), (5, .rp 62 (encS s)), (2, .int g), (3, .int c)] []) (em [(.s 4 0, 1), (.s 5 0, 1)] ⟨sF, sF, trivial⟩ ⟨⟨rfl, _, rfl, rpv⟩, ⟨rfl, _, rfl, rpv⟩, ⟨rfl, _, rfl, cvt⟩, ⟨rfl, _, rfl, cvt⟩, trivial⟩ trivial) ?_
 refine rgs [] rfl ?_ ?_
 ·have := hg.1
  simp [-List.getD_eq_getElem?_getD, holdsC, under]; omega
 refine cd rfl (fun h1 => ?_) (fun h1 => ?_)
 ·simp only [bor] at h1
  refine sq (rg [] rfl ?_)
  refine WP.ret ?_
  change Fin ..
  refine fin1 hT (by rfl) (Eq.symm (decide_eq_false fun h => ?_))
  obtain ⟨a, b, c, _⟩ := h
  simp [-List.getD_eq_getElem?_getD] at h1
  grind
 ·simp only [bor] at h1
  have hh : 0 ≤ g ∧ g < s.count ∧ (goI s g).status = 2 := by simp [-List.getD_eq_getElem?_getD] at h1; grind
  have hf := hg.2 g.toNat (by omega)
  have h6 := hg.1
  refine sk (sq (drs [] rfl ?_ ?_))
  ·have h3 := hf.2.1; have h4 := hf.2.2.1; simp only [bndP, fnOf] at h3 h4
   simp [-List.getD_eq_getElem?_getD, holdsC, under]; omega
  refine sq (rg [] rfl ?_)
  refine WP.ret ?_
  change Fin ..
  refine fin1 hT (by rfl) ?_
  simp only [band]
  rw [Bool.eq_iff_iff, decide_eq_true_iff]
  unfold waitP
  simp only [hh, true_and]
  rw [Bool.and_eq_true, beq_iff_eq, beq_iff_eq]
end Go.Ab


/- States of a program: channels; what is valid. -/
set_option autoImplicit false
set_option maxRecDepth 20000
set_option maxHeartbeats 4000000
set_option linter.unusedSimpArgs false
set_option linter.unusedVariables false
namespace Go.Ab
open Go.Proofs
abbrev capI (p : PProg) (c : Nat) : Int := p.chans.getD c 0
abbrev chAt (s : PSt) (c : Nat) : PChan := s.chans.getD c ch0
def chanP (p : PProg) (s : PSt) (c : Nat) : Prop := ((0 ≤ (chAt s c).len ∧ (chAt s c).len ≤ capI p c) ∧ (0 ≤ (chAt s c).offer ∧ (chAt s c).offer ≤ 3) ∧ ((chAt s c).offer ≠ 0 → capI p c = 0)) ∧
  (∀ k : Nat, k < 4 → (chAt s c).len ≤ k → (chAt s c).buf.getD k 0 = 0) ∧ ((chAt s c).offer = 0 → (chAt s c).frm = 0 ∧ (chAt s c).val = 0) ∧
  ((chAt s c).offer = 1 → (chAt s c).closed = false) ∧ ((chAt s c).offer = 2 ∨ (chAt s c).offer = 3 → (chAt s c).val = 0) ∧ ((chAt s c).offer = 3 → (chAt s c).closed = true) ∧ ((chAt s c).offer ≠ 0 → waitP p s (chAt s c).frm c)
instance (p : PProg) (s : PSt) (c : Nat) : Decidable (chanP p s c) := by unfold chanP; infer_instance
def offN (p : PProg) (s : PSt) (g : Int) : Nat → Nat
  | 0 => 0
  | c + 1 => offN p s g c + if c < p.chans.length ∧ (chAt s c).offer ≠ 0 ∧ (chAt s c).frm = g then 1 else 0
theorem offN_le (p : PProg) (s : PSt) (g : Int) : ∀ c, offN p s g c ≤ c
  | 0 => Nat.le_refl _
  | c + 1 => by have := offN_le p s g c; rw [offN]; split <;> omega
def offL (p : PProg) (s : PSt) (c : Nat) : List Int := (List.range 6).map fun g => (offN p s (g : Nat) c : Int)
theorem offL_len (p : PProg) (s : PSt) (c : Nat) : (offL p s c).length = 6 := by simp [offL]
theorem offL_at (p : PProg) (s : PSt) (c : Nat) {g : Nat} (h : g < 6) : (offL p s c).getD g 0 = offN p s (g : Nat) c := by simp [offL, h]
theorem offL_skip {p : PProg} {s : PSt} {c : Nat} (h : ¬ (c < p.chans.length ∧ (chAt s c).offer ≠ 0)) : offL p s (c + 1) = offL p s c := by
  unfold offL
  refine List.map_congr_left fun g hg => ?_
  rw [offN, if_neg (fun e => h ⟨e.1, e.2.1⟩), Nat.add_zero]
theorem offL_put {p : PProg} {s : PSt} {c : Nat} (h : c < p.chans.length ∧ (chAt s c).offer ≠ 0) (hf : 0 ≤ (chAt s c).frm ∧ (chAt s c).frm < 6) : (offL p s c).set (chAt s c).frm.toNat (offN p s (chAt s c).frm c + 1) = offL p s (c + 1) := by
  refine List.ext_getElem (by simp [offL]) fun i h1 h2 => ?_
  have hi : i < 6 := by simpa [offL] using h2
  rw [List.getElem_set]
  split
  · rename_i e
    simp only [offL, List.getElem_map, List.getElem_range]
    have e2 : ((i : Nat) : Int) = (chAt s c).frm := by omega
    rw [e2, offN, if_pos ⟨h.1, h.2, rfl⟩]
    omega
  · rename_i e
    simp only [offL, List.getElem_map, List.getElem_range]
    rw [offN, if_neg (fun k => e (by rw [k.2.2]; omega)), Nat.add_zero]
def varP (p : PProg) (s : PSt) (k : Nat) : Prop := p.vars.length ≤ k → s.vars.getD k 0 = 0
def ownP (p : PProg) (s : PSt) (k : Nat) : Prop := 0 ≤ s.owner.getD k 0 ∧ s.owner.getD k 0 ≤ s.count ∧ (s.owner.getD k 0 ≠ 0 → (k : Int) < p.locks)
def gokP (p : PProg) (s : PSt) (k : Nat) : Prop := ((k : Int) < s.count → fitP p (s.gos.getD k go0)) ∧ (s.count ≤ k → s.gos.getD k go0 = go0)
def chkP (p : PProg) (s : PSt) (k : Nat) : Prop := (k < p.chans.length → chanP p s k) ∧ (p.chans.length ≤ k → chAt s k = ch0)
def watP (p : PProg) (s : PSt) (k : Nat) : Prop := (s.gos.getD k go0).status = 2 → offN p s k 4 = 1
instance (p : PProg) (s : PSt) (k : Nat) : Decidable (varP p s k) := by unfold varP; infer_instance
instance (p : PProg) (s : PSt) (k : Nat) : Decidable (ownP p s k) := by unfold ownP; infer_instance
instance (p : PProg) (s : PSt) (k : Nat) : Decidable (gokP p s k) := by unfold gokP; infer_instance
instance (p : PProg) (s : PSt) (k : Nat) : Decidable (chkP p s k) := by unfold chkP; infer_instance
instance (p : PProg) (s : PSt) (k : Nat) : Decidable (watP p s k) := by unfold watP; infer_instance
def validP (p : PProg) (s : PSt) : Prop := rightB p = true ∧ (1 ≤ s.count ∧ s.count ≤ 6) ∧ (∀ k, k < 8 → varP p s k) ∧ (∀ k, k < 4 → ownP p s k) ∧ (∀ k, k < 6 → gokP p s k) ∧ (∀ k, k < 4 → chkP p s k) ∧ (∀ k, k < 6 → watP p s k)
instance (p : PProg) (s : PSt) : Decidable (validP p s) := by unfold validP; infer_instance
theorem channel_ac (p : PProg) (s : PSt) (c : Nat) (hp : ProgP p) (hg : gosP p s) (hc : c < p.chans.length) : AC Tryz.prog T tysN 190 [encProg p, encS s, .int c] [] (.bool (decide (chanP p s c))) [] := by
 refine AC_intro hT Tryz.func190 rfl rfl (Nat.le_of_ble_eq_true rfl) ?_
 have hc4 : c < 4 := Nat.lt_of_lt_of_le hc hp.chans
 have hcap : 0 ≤ capI p c ∧ capI p c ≤ 4 := hp.caps _ (by simp [capI, hc])
 refine sq (rg [] rfl ?_)
 refine sq ?_
 refine WP.ent (st' := mkSt [(3, .rp 26 (encProg p)), (4, .rp 62 (encS s)), (2, .int c)] []) (em [(.s 3 0, 1), (.s 4 0, 1)] ⟨sF, sF, trivial⟩ ⟨⟨rfl, _, rfl, rpv⟩, ⟨rfl, _, rfl, rpv⟩, ⟨rfl, _, rfl, cvt⟩, trivial⟩ trivial) ?_
 refine rgs [] rfl ?_ ?_
 ·simp [-List.getD_eq_getElem?_getD, holdsC, under]; omega
 refine sq (sq ?_)
 refine WP.ent (st' := mkSt [(7, .rp 56 (encCh (chAt s c))), (2, .int c), (3, .rp 26 (encProg p)), (4, .rp 62 (encS s))] []) (em [(.s 7 0, 1)] ⟨sF, trivial⟩ ⟨⟨rfl, _, rfl, rpv⟩, ⟨rfl, _, rfl, cvt⟩, ⟨rfl, _, rfl, cvt⟩, ⟨rfl, _, rfl, cvt⟩, trivial⟩ trivial) ?_
 refine drs [] rfl ?_ ?_
 ·simp [-List.getD_eq_getElem?_getD, holdsC, under]; omega
 refine cd rfl (fun h2 => ?_) (fun h2 => ?_)
 ·simp only [bor, band] at h2
  refine sq (rg [] rfl ?_)
  refine WP.ret ?_
  change Fin ..
  refine fin1 hT (by rfl) (Eq.symm (decide_eq_false fun h => ?_))
  have h3 := h.1
  simp [-List.getD_eq_getElem?_getD] at h2 h3
  grind
 ·simp only [bor, band] at h2
  have h1 : (0 ≤ (chAt s c).len ∧ (chAt s c).len ≤ capI p c) ∧ (0 ≤ (chAt s c).offer ∧ (chAt s c).offer ≤ 3) ∧ ((chAt s c).offer ≠ 0 → capI p c = 0) := by
    simp [-List.getD_eq_getElem?_getD] at h2 ⊢
    grind
  have hlen : 0 ≤ (chAt s c).len ∧ (chAt s c).len ≤ 4 := by omega
  refine sk (sq (sq (rgs [] rfl ?_ ?_)))
  ·simp [-List.getD_eq_getElem?_getD, holdsC, under, slOk, slB, capEq]; omega
  refine bk ?_
  refine WP.loop (α := Nat) (fun i => mkSt [(2, .int c), (3, .rp 26 (encProg p)), (4, .rp 62 (encS s)), (7, .rp 56 (encCh (chAt s c))), (53, .row 2 true (4 - (chAt s c).len).toNat (fun j => .int ((chAt s c).buf.getD ((chAt s c).len.toNat + j) 0))), (54, .int (4 - (chAt s c).len).toNat), (55, .int i)] []) (fun i => i ≤ (4 - (chAt s c).len).toNat ∧ ∀ k : Nat, k < i → (chAt s c).buf.getD ((chAt s c).len.toNat + k) 0 = 0) (fun i => 8 - i) ?_ ?_
  ·refine ⟨0, ?_, ?_⟩
   ·exact ⟨Nat.zero_le _, fun j hj => by omega⟩
   ·refine em [] trivial ⟨⟨rfl, _, rfl, cvt⟩, ⟨rfl, _, rfl, cvt⟩, ⟨rfl, _, rfl, cvt⟩, ⟨rfl, _, rfl, cvt⟩, ⟨rfl, _, rfl, cvt⟩, ⟨rfl, _, rfl, cvt⟩, ⟨rfl, _, rfl, cvt⟩, trivial⟩ trivial
  ·rintro i ⟨hi, hn⟩
   refine sq (rg [] rfl ?_)
   refine sq ?_
   refine cd rfl (fun h5 => ?_) (fun h5 => ?_)
   ·have hil : i < (4 - (chAt s c).len).toNat := by simp [-List.getD_eq_getElem?_getD] at h5; omega
    refine sk (sq (bk (sq (rgs [] rfl ?_ ?_))))
    ·simp [-List.getD_eq_getElem?_getD, holdsC, under]; omega
    refine sq (rg [] rfl ?_)
    refine cd rfl (fun h7 => ?_) (fun h7 => ?_)
    ·refine sq (rg [] rfl ?_)
     refine WP.ret ?_
     change Fin ..
     refine fin1 hT (by rfl) (Eq.symm (decide_eq_false fun h => ?_))
     have h3 := h.2.1 ((chAt s c).len.toNat + i) (by omega) (by omega)
     simp [-List.getD_eq_getElem?_getD] at h7
     exact h7 h3
    ·refine sk (rg [] rfl ?_)
     refine ⟨i + 1, ?_, ?_, ?_⟩
     ·exact ⟨hil, all_succ hn (by simp [-List.getD_eq_getElem?_getD] at h7; exact h7)⟩
     ·refine em [] trivial ⟨⟨rfl, _, rfl, cvt⟩, ⟨rfl, _, rfl, cvt⟩, ⟨rfl, _, rfl, cvt⟩, ⟨rfl, _, rfl, cvt⟩, ⟨rfl, _, rfl, cvt⟩, ⟨rfl, _, rfl, cvt⟩, ⟨rfl, _, rfl, cvt⟩, trivial⟩ trivial
     ·(try simp only []); first | omega | grind
   ·have hil : i = (4 - (chAt s c).len).toNat := by simp [-List.getD_eq_getElem?_getD] at h5; omega
    have hbuf : ∀ k : Nat, k < 4 → (chAt s c).len ≤ k → (chAt s c).buf.getD k 0 = 0 := fun k h8 h9 => by
      have := hn (k - (chAt s c).len.toNat) (by omega)
      rwa [show (chAt s c).len.toNat + (k - (chAt s c).len.toNat) = k by omega] at this
    have fin : ∀ b : Bool, (b = true ↔ ((chAt s c).offer = 0 → (chAt s c).frm = 0 ∧ (chAt s c).val = 0) ∧
      ((chAt s c).offer = 1 → (chAt s c).closed = false) ∧ ((chAt s c).offer = 2 ∨ (chAt s c).offer = 3 → (chAt s c).val = 0) ∧ ((chAt s c).offer = 3 → (chAt s c).closed = true) ∧ ((chAt s c).offer ≠ 0 → waitP p s (chAt s c).frm c)) → b = decide (chanP p s c) := fun b hb => by
      rw [Bool.eq_iff_iff, hb, decide_eq_true_iff]
      exact ⟨fun h => ⟨h1, hbuf, h⟩, fun h => h.2.2⟩
    have hw := waits_ac p s (chAt s c).frm c hg
    refine xt (sq (sq (rg [] rfl ?_)))
    refine bk (sq (rg [] rfl ?_))
    refine cd rfl (fun h11 => ?_) (fun h11 => ?_)
    ·have e0 : (chAt s c).offer = 0 := by simp [-List.getD_eq_getElem?_getD] at h11; exact h11
     refine sq (rg [] rfl ?_)
     refine WP.ret ?_
     change Fin ..
     refine fin1 hT (by rfl) (fin _ ?_)
     simp only [band]
     simp [-List.getD_eq_getElem?_getD, e0]
    ·have e0 : (chAt s c).offer ≠ 0 := by simp [-List.getD_eq_getElem?_getD] at h11; exact h11
     refine sq (rg [] rfl ?_)
     refine cd rfl (fun h13 => ?_) (fun h13 => ?_)
     ·have e1 : (chAt s c).offer = 1 := by simp [-List.getD_eq_getElem?_getD] at h13; exact h13
      refine sq (rgs [CG.pure (.bool (decide (waitP p s (chAt s c).frm c)))] rfl ?_ ?_)
      ·simp only [holdsC, under, CG.pure]
       repeat' with_reducible refine And.intro ?_ ?_
       all_goals (try with_reducible intros)
       all_goals (first | exact trivial | assumption | omega | exact hw | (simp; done) | grind)
      refine WP.ret ?_
      change Fin ..
      refine fin1 hT (by rfl) (fin _ ?_)
      simp only [band]
      simp [-List.getD_eq_getElem?_getD, e1]
     ·have e1 : (chAt s c).offer ≠ 1 := by simp [-List.getD_eq_getElem?_getD] at h13; exact h13
      refine sq (rg [] rfl ?_)
      refine cd rfl (fun h15 => ?_) (fun h15 => ?_)
      ·have e2 : (chAt s c).offer = 2 := by simp [-List.getD_eq_getElem?_getD] at h15; exact h15
       refine sq (rgs [CG.pure (.bool (decide (waitP p s (chAt s c).frm c)))] rfl ?_ ?_)
       ·simp only [holdsC, under, CG.pure]
        repeat' with_reducible refine And.intro ?_ ?_
        all_goals (try with_reducible intros)
        all_goals (first | exact trivial | assumption | omega | exact hw | (simp; done) | grind)
       refine WP.ret ?_
       change Fin ..
       refine fin1 hT (by rfl) (fin _ ?_)
       simp only [band]
       simp [-List.getD_eq_getElem?_getD, e2]
      ·have e2 : (chAt s c).offer ≠ 2 := by simp [-List.getD_eq_getElem?_getD] at h15; exact h15
       have e3 : (chAt s c).offer = 3 := by omega
       refine sk (sq (rgs [CG.pure (.bool (decide (waitP p s (chAt s c).frm c)))] rfl ?_ ?_))
       ·simp only [holdsC, under, CG.pure]
        repeat' with_reducible refine And.intro ?_ ?_
        all_goals (try with_reducible intros)
        all_goals (first | exact trivial | assumption | omega | exact hw | (simp; done) | grind)
       refine WP.ret ?_
       change Fin ..
       refine fin1 hT (by rfl) (fin _ ?_)
       simp only [band]
       simp [-List.getD_eq_getElem?_getD, e3]
       grind
end Go.Ab


/- States of a program: Valid. -/
set_option autoImplicit false
set_option maxRecDepth 20000
set_option maxHeartbeats 4000000
set_option linter.unusedSimpArgs false
set_option linter.unusedVariables false
namespace Go.Ab
open Go.Proofs
theorem okGo_at {s : PSt} (h : OkS s) (k : Nat) : okGo (s.gos.getD k go0) := by
  rw [List.getD_eq_getElem?_getD]
  cases hk : s.gos[k]? with
  | none => rfl
  | some g => exact h.go g (List.mem_of_getElem? hk)
theorem okCh_at {s : PSt} (h : OkS s) (k : Nat) : okCh (s.chans.getD k ch0) := by
  rw [List.getD_eq_getElem?_getD]
  cases hk : s.chans[k]? with
  | none => rfl
  | some g => exact h.ch g (List.mem_of_getElem? hk)
theorem go_is {g : PGo} (h : okGo g) : (g.status == 0 && (g.func == 0 && (g.pc == 0 && (g.why == 0 && (true && g.regs.getD 0 0 == 0 && g.regs.getD 1 0 == 0 && g.regs.getD 2 0 == 0 && g.regs.getD 3 0 == 0 && g.regs.getD 4 0 == 0 && g.regs.getD 5 0 == 0 && g.regs.getD 6 0 == 0 && g.regs.getD 7 0 == 0 && true))))) = decide (g = go0) := by
  obtain ⟨a, b, c, d, l⟩ := g
  match l, h with
  | [x0, x1, x2, x3, x4, x5, x6, x7], _ =>
    rw [Bool.eq_iff_iff]
    simp [go0]
    grind
theorem ch_is {c : PChan} (h : okCh c) : (true && c.buf.getD 0 0 == 0 && c.buf.getD 1 0 == 0 && c.buf.getD 2 0 == 0 && c.buf.getD 3 0 == 0 && (c.len == 0 && (c.closed == false && (c.offer == 0 && (c.frm == 0 && (c.val == 0 && true)))))) = decide (c = ch0) := by
  obtain ⟨l, a, b, c, d, e⟩ := c
  match l, h with
  | [x0, x1, x2, x3], _ =>
    rw [Bool.eq_iff_iff]
    simp [ch0]
    grind
theorem offL0 (p : PProg) (s : PSt) : (AV.agg 279 6 fun _ => AV.int 0) = arrI 279 6 .i64 (offL p s 0) := agg_ext fun i => by match i with | 0 | 1 | 2 | 3 | 4 | 5 => rfl | i + 6 => rfl
theorem valid_ac (p : PProg) (s : PSt) (ho : OkS s) : AC Tryz.prog T tysN 129 [encProg p, encS s] [] (.bool (decide (validP p s))) [] := by
 refine AC_intro hT Tryz.func129 rfl rfl (Nat.le_of_ble_eq_true rfl) ?_
 refine sq (rg [] rfl ?_)
 refine sq (sq ?_)
 refine WP.ent (st' := mkSt [(2, .rp 26 (encProg p)), (3, .rp 62 (encS s))] []) (em [(.s 2 0, 1), (.s 3 0, 1)] ⟨sF, sF, trivial⟩ ⟨⟨rfl, _, rfl, rpv⟩, ⟨rfl, _, rfl, rpv⟩, trivial⟩ trivial) ?_
 refine rgs [CG.pure (.bool (rightB p))] rfl ?_ ?_
 ·have hq := sright_ac p
  simp only [holdsC, under, CG.pure]
  repeat' with_reducible refine And.intro ?_ ?_
  all_goals (try with_reducible intros)
  all_goals (first | exact trivial | assumption | omega | exact hq | (simp; done) | grind)
 refine cd rfl (fun h1 => ?_) (fun h1 => ?_)
 ·simp only [bor] at h1
  refine sq (rg [] rfl ?_)
  refine WP.ret ?_
  change Fin ..
  refine fin1 hT (by rfl) (Eq.symm (decide_eq_false fun h => ?_))
  have h2 := h.1; have h3 := h.2.1
  simp [-List.getD_eq_getElem?_getD, h2] at h1; omega
 ·simp only [bor] at h1
  have hr : rightB p = true ∧ (1 ≤ s.count ∧ s.count ≤ 6) := by simp [-List.getD_eq_getElem?_getD] at h1; cases hz : rightB p <;> simp [hz] at h1 ⊢ <;> omega
  have hp := prog_ok hr.1
  have hpl : p.locks ≤ 4 := hp.locks.2
  refine sk (sq (sq (rg [] rfl ?_)))
  refine bk ?_
  refine WP.loop (α := Nat) (fun i => mkSt [(2, .rp 26 (encProg p)), (3, .rp 62 (encS s)), (30, arrI 52 8 .i64 s.vars), (31, .int i)] []) (fun i => i ≤ 8 ∧ ∀ k, k < i → varP p s k) (fun i => 8 - i) ?_ ?_
  ·refine ⟨0, ?_, ?_⟩
   ·exact ⟨Nat.zero_le _, fun j hj => by omega⟩
   ·refine em [] trivial ⟨⟨rfl, _, rfl, cvt⟩, ⟨rfl, _, rfl, cvt⟩, ⟨rfl, _, rfl, cvt⟩, ⟨rfl, _, rfl, cvt⟩, trivial⟩ trivial
  ·rintro i ⟨hi, hn⟩
   refine sq (rg [] rfl ?_)
   refine sq ?_
   refine cd rfl (fun h4 => ?_) (fun h4 => ?_)
   ·have hil : i < 8 := by simp [-List.getD_eq_getElem?_getD] at h4; omega
    refine sk (sq (bk (sq (rgs [] rfl ?_ ?_))))
    ·simp [-List.getD_eq_getElem?_getD, holdsC, under]; omega
    refine sq (rg [] rfl ?_)
    refine cd rfl (fun h6 => ?_) (fun h6 => ?_)
    ·simp only [band] at h6
     refine sq (rg [] rfl ?_)
     refine WP.ret ?_
     change Fin ..
     refine fin1 hT (by rfl) (Eq.symm (decide_eq_false fun h => ?_))
     have h3 := h.2.2.1 i hil
     unfold varP at h3
     simp [-List.getD_eq_getElem?_getD] at h6
     exact h6.2 (h3 (by omega))
    ·simp only [band] at h6
     refine sk (rg [] rfl ?_)
     refine ⟨i + 1, ?_, ?_, ?_⟩
     ·exact ⟨hil, all_succ hn (fun h => by simp [-List.getD_eq_getElem?_getD] at h6; exact h6 (by omega))⟩
     ·refine em [] trivial ⟨⟨rfl, _, rfl, cvt⟩, ⟨rfl, _, rfl, cvt⟩, ⟨rfl, _, rfl, cvt⟩, ⟨rfl, _, rfl, cvt⟩, trivial⟩ trivial
     ·(try simp only []); first | omega | grind
   ·have hil : i = 8 := by simp [-List.getD_eq_getElem?_getD] at h4; omega
    subst hil
    refine xt (sq (sq (rg [] rfl ?_)))
    refine bk ?_
    refine WP.loop (α := Nat) (fun j => mkSt [(2, .rp 26 (encProg p)), (3, .rp 62 (encS s)), (46, arrI 53 4 .i64 s.owner), (47, .int j)] []) (fun j => j ≤ 4 ∧ ∀ k, k < j → ownP p s k) (fun j => 4 - j) ?_ ?_
    ·refine ⟨0, ?_, ?_⟩
     ·exact ⟨Nat.zero_le _, fun j hj => by omega⟩
     ·refine em [] trivial ⟨⟨rfl, _, rfl, cvt⟩, ⟨rfl, _, rfl, cvt⟩, ⟨rfl, _, rfl, cvt⟩, ⟨rfl, _, rfl, cvt⟩, trivial⟩ trivial
    ·rintro j ⟨hj, hno⟩
     refine sq (rg [] rfl ?_)
     refine sq ?_
     refine cd rfl (fun h10 => ?_) (fun h10 => ?_)
     ·have hjl : j < 4 := by simp [-List.getD_eq_getElem?_getD] at h10; omega
      refine sk (sq (bk (sq (rgs [] rfl ?_ ?_))))
      ·simp [-List.getD_eq_getElem?_getD, holdsC, under]; omega
      refine sq (rg [] rfl ?_)
      refine cd rfl (fun h12 => ?_) (fun h12 => ?_)
      ·simp only [band, bor] at h12
       refine sq (rg [] rfl ?_)
       refine WP.ret ?_
       change Fin ..
       refine fin1 hT (by rfl) (Eq.symm (decide_eq_false fun h => ?_))
       have h3 := h.2.2.2.1 j hjl
       unfold ownP at h3
       simp [-List.getD_eq_getElem?_getD] at h12
       grind
      ·simp only [band, bor] at h12
       refine sk (rg [] rfl ?_)
       refine ⟨j + 1, ?_, ?_, ?_⟩
       ·exact ⟨hjl, all_succ hno (by unfold ownP; simp [-List.getD_eq_getElem?_getD] at h12; grind)⟩
       ·refine em [] trivial ⟨⟨rfl, _, rfl, cvt⟩, ⟨rfl, _, rfl, cvt⟩, ⟨rfl, _, rfl, cvt⟩, ⟨rfl, _, rfl, cvt⟩, trivial⟩ trivial
       ·(try simp only []); first | omega | grind
     ·have hjl : j = 4 := by simp [-List.getD_eq_getElem?_getD] at h10; omega
      subst hjl
      refine xt (sq (sq (rg [] rfl ?_)))
      refine bk ?_
      refine WP.loop (α := Nat) (fun k => mkSt [(2, .rp 26 (encProg p)), (3, .rp 62 (encS s)), (71, aggL 60 6 encGo go0 s.gos), (72, .int k)] []) (fun k => k ≤ 6 ∧ ∀ j, j < k → gokP p s j) (fun k => 6 - k) ?_ ?_
      ·refine ⟨0, ?_, ?_⟩
       ·exact ⟨Nat.zero_le _, fun j hj => by omega⟩
       ·refine em [] trivial ⟨⟨rfl, _, rfl, cvt⟩, ⟨rfl, _, rfl, cvt⟩, ⟨rfl, _, rfl, cvt⟩, ⟨rfl, _, rfl, cvt⟩, trivial⟩ trivial
      ·rintro k ⟨hk, hng⟩
       refine sq (rg [] rfl ?_)
       refine sq ?_
       refine cd rfl (fun h16 => ?_) (fun h16 => ?_)
       ·have hkl : k < 6 := by simp [-List.getD_eq_getElem?_getD] at h16; omega
        refine sk (sq (bk (sq (rgs [] rfl ?_ ?_))))
        ·simp [-List.getD_eq_getElem?_getD, holdsC, under]; omega
        refine sq (rgs [CG.pure (.bool (decide (fitP p (s.gos.getD k go0))))] rfl ?_ ?_)
        ·have hq := fits_ac p (s.gos.getD k go0)
         simp only [holdsC, under, CG.pure]
         repeat' with_reducible refine And.intro ?_ ?_
         all_goals (try with_reducible intros)
         all_goals (first | exact trivial | assumption | omega | exact hq | (simp; done) | grind)
        refine cd rfl (fun h18 => ?_) (fun h18 => ?_)
        ·simp only [band, bor, Int.toNat_natCast] at h18
         rw [go_is (okGo_at ho k)] at h18
         refine sq (rg [] rfl ?_)
         refine WP.ret ?_
         change Fin ..
         refine fin1 hT (by rfl) (Eq.symm (decide_eq_false fun h => ?_))
         have h3 := h.2.2.2.2.1 k hkl
         unfold gokP at h3
         simp [-List.getD_eq_getElem?_getD] at h18
         grind
        ·simp only [band, bor, Int.toNat_natCast] at h18
         rw [go_is (okGo_at ho k)] at h18
         refine sk (rg [] rfl ?_)
         refine ⟨k + 1, ?_, ?_, ?_⟩
         ·exact ⟨hkl, all_succ hng (by unfold gokP; simp [-List.getD_eq_getElem?_getD] at h18; grind)⟩
         ·refine em [] trivial ⟨⟨rfl, _, rfl, cvt⟩, ⟨rfl, _, rfl, cvt⟩, ⟨rfl, _, rfl, cvt⟩, ⟨rfl, _, rfl, cvt⟩, trivial⟩ trivial
         ·(try simp only []); first | omega | grind
       ·have hkl : k = 6 := by simp [-List.getD_eq_getElem?_getD] at h16; omega
        subst hkl
        have hgp : gosP p s := ⟨hr.2.2, fun k hk => (hng k (by omega)).1 hk⟩
        refine xt (sq (rg [] rfl ?_))
        refine sq (sq (rg [] rfl ?_))
        refine bk ?_
        refine WP.loop (α := Nat) (fun c => mkSt [(2, .rp 26 (encProg p)), (3, .rp 62 (encS s)), (11, .ptr (.s 11 0) 1 0 []), (100, aggL 57 4 encCh ch0 s.chans), (101, .int c)] [(.s 11 0, .cells ⟨279, 1, fun _ => arrI 279 6 .i64 (offL p s c), 0⟩)]) (fun c => c ≤ 4 ∧ ∀ j, j < c → chkP p s j) (fun c => 4 - c) ?_ ?_
        ·refine ⟨0, ?_, ?_⟩
         ·exact ⟨Nat.zero_le _, fun j hj => by omega⟩
         ·refine em [] trivial ⟨⟨rfl, _, rfl, cvt⟩, ⟨rfl, _, rfl, cvt⟩, ⟨rfl, _, rfl, cvt⟩, ⟨rfl, _, rfl, cvt⟩, ⟨rfl, _, rfl, cvt⟩, trivial⟩ ⟨obs rfl (hg := q0 (conv_eq (offL0 p s))), trivial⟩
        ·rintro c ⟨hc, hnc⟩
         refine sq (rg [] rfl ?_)
         refine sq ?_
         refine cd rfl (fun h23 => ?_) (fun h23 => ?_)
         ·have hcl : c < 4 := by simp [-List.getD_eq_getElem?_getD] at h23; omega
          refine sk (sq (bk (sq (rgs [] rfl ?_ ?_))))
          ·simp [-List.getD_eq_getElem?_getD, holdsC, under]; omega
          refine sq (sq (rg [] rfl ?_))
          refine cd rfl (fun h25 => ?_) (fun h25 => ?_)
          ·have hpc : p.chans.length ≤ c := by simp [-List.getD_eq_getElem?_getD] at h25; omega
           refine sq (sq (rg [] rfl ?_))
           refine cd rfl (fun h26 => ?_) (fun h26 => ?_)
           ·simp only [Int.toNat_natCast] at h26
            rw [ch_is (okCh_at ho c)] at h26
            refine sq (rg [] rfl ?_)
            refine WP.ret ?_
            change Fin ..
            refine fin1 hT (by rfl) (Eq.symm (decide_eq_false fun h => ?_))
            have h3 := h.2.2.2.2.2.1 c hcl
            unfold chkP at h3
            simp [-List.getD_eq_getElem?_getD] at h26
            exact h26 (h3.2 hpc)
           ·simp only [Int.toNat_natCast] at h26
            rw [ch_is (okCh_at ho c)] at h26
            refine sk (xt (rg [] rfl ?_))
            refine ⟨c + 1, ?_, ?_, ?_⟩
            ·exact ⟨hcl, all_succ hnc ⟨fun h => by omega, fun _ => by simp [-List.getD_eq_getElem?_getD] at h26; exact h26⟩⟩
            ·refine em [] trivial ⟨⟨rfl, _, rfl, cvt⟩, ⟨rfl, _, rfl, cvt⟩, ⟨rfl, _, rfl, cvt⟩, ⟨rfl, _, rfl, cvt⟩, ⟨rfl, _, rfl, cvt⟩, trivial⟩ ⟨obs rfl (hg := q0 (conv_eq (by rw [offL_skip (by omega)]))), trivial⟩
            ·(try simp only []); first | omega | grind
          ·have hpc : c < p.chans.length := by simp [-List.getD_eq_getElem?_getD] at h25; omega
           refine sk (sq (sq (rgs [CG.pure (.bool (decide (chanP p s c)))] rfl ?_ ?_)))
           ·have hq := channel_ac p s c hp hgp hpc
            simp only [holdsC, under, CG.pure]
            repeat' with_reducible refine And.intro ?_ ?_
            all_goals (try with_reducible intros)
            all_goals (first | exact trivial | assumption | omega | exact hq | (simp; done) | grind)
           refine cd rfl (fun h28 => ?_) (fun h28 => ?_)
           ·refine sq (rg [] rfl ?_)
            refine WP.ret ?_
            change Fin ..
            refine fin1 hT (by rfl) (Eq.symm (decide_eq_false fun h => ?_))
            have h3 := (h.2.2.2.2.2.1 c hcl).1 hpc
            simp [h3] at h28
           ·have hch : chanP p s c := by simpa using h28
            refine sk (sq (rg [] rfl ?_))
            refine cd rfl (fun h30 => ?_) (fun h30 => ?_)
            ·have hof : (chAt s c).offer ≠ 0 := by simp [-List.getD_eq_getElem?_getD] at h30; exact h30
             have hfr := hch.2.2.2.2.2.2 hof
             have hfr2 : 0 ≤ (chAt s c).frm ∧ (chAt s c).frm < 6 := ⟨hfr.1, by have := hfr.2.1; omega⟩
             refine rgs [] rfl ?_ ?_
             ·simp [-List.getD_eq_getElem?_getD, holdsC, under]; omega
             refine rg [] rfl ?_
             have hl := offN_le p s (chAt s c).frm c
             have h0 := offL_at p s c (g := (chAt s c).frm.toNat) (by omega)
             rw [Int.toNat_of_nonneg hfr2.1] at h0
             have hE : (arrI 279 6 .i64 (offL p s c)).put [(chAt s c).frm.toNat] (.int (IntKind.i64.wrap ((offL p s c).getD (chAt s c).frm.toNat 0 + 1))) = arrI 279 6 .i64 (offL p s (c + 1)) := by
               refine (arrI_put (by rw [offL_len]; omega)).trans (congrArg (arrI _ _ _) (Eq.trans ?_ (offL_put ⟨hpc, hof⟩ hfr2)))
               rw [h0, wrap_id (by omega) (by omega)]
             refine ⟨c + 1, ?_, ?_, ?_⟩
             ·exact ⟨hcl, all_succ hnc ⟨fun _ => hch, fun h => by omega⟩⟩
             ·refine em [] trivial ⟨⟨rfl, _, rfl, cvt⟩, ⟨rfl, _, rfl, cvt⟩, ⟨rfl, _, rfl, cvt⟩, ⟨rfl, _, rfl, cvt⟩, ⟨rfl, _, rfl, cvt⟩, trivial⟩ ⟨obs rfl (hg := q0 (conv_eq hE)), trivial⟩
             ·(try simp only []); first | omega | grind
            ·refine sk (rg [] rfl ?_)
             refine ⟨c + 1, ?_, ?_, ?_⟩
             ·exact ⟨hcl, all_succ hnc ⟨fun _ => hch, fun h => by omega⟩⟩
             ·refine em [] trivial ⟨⟨rfl, _, rfl, cvt⟩, ⟨rfl, _, rfl, cvt⟩, ⟨rfl, _, rfl, cvt⟩, ⟨rfl, _, rfl, cvt⟩, ⟨rfl, _, rfl, cvt⟩, trivial⟩ ⟨obs rfl (hg := q0 (conv_eq (by rw [offL_skip (fun h => by simp [-List.getD_eq_getElem?_getD] at h30; exact h.2 h30)]))), trivial⟩
             ·(try simp only []); first | omega | grind
         ·have hcl : c = 4 := by simp [-List.getD_eq_getElem?_getD] at h23; omega
          subst hcl
          refine xt (sq (sq (rg [] rfl ?_)))
          refine bk ?_
          refine WP.loop (α := Nat) (fun i => mkSt [(3, .rp 62 (encS s)), (11, .ptr (.s 11 0) 1 0 []), (129, aggL 60 6 encGo go0 s.gos), (130, .int i)] [(.s 11 0, .cells ⟨279, 1, fun _ => arrI 279 6 .i64 (offL p s 4), 0⟩)]) (fun i => i ≤ 6 ∧ ∀ j, j < i → watP p s j) (fun i => 6 - i) ?_ ?_
          ·refine ⟨0, ?_, ?_⟩
           ·exact ⟨Nat.zero_le _, fun j hj => by omega⟩
           ·refine em [] trivial ⟨⟨rfl, _, rfl, cvt⟩, ⟨rfl, _, rfl, cvt⟩, ⟨rfl, _, rfl, cvt⟩, ⟨rfl, _, rfl, cvt⟩, trivial⟩ ⟨obs rfl, trivial⟩
          ·rintro i ⟨hi, hni⟩
           refine sq (rg [] rfl ?_)
           refine sq ?_
           refine cd rfl (fun h34 => ?_) (fun h34 => ?_)
           ·have hil : i < 6 := by simp [-List.getD_eq_getElem?_getD] at h34; omega
            refine sk (sq (bk (sq (rgs [] rfl ?_ ?_))))
            ·simp [-List.getD_eq_getElem?_getD, holdsC, under]; omega
            refine sq (rgs [] rfl ?_ ?_)
            ·simp [-List.getD_eq_getElem?_getD, holdsC, under]; omega
            refine cd rfl (fun h36 => ?_) (fun h36 => ?_)
            ·simp only [band, bor, Int.toNat_natCast] at h36
             rw [offL_at p s 4 hil] at h36
             refine sq (rg [] rfl ?_)
             refine WP.ret ?_
             change Fin ..
             refine fin1 hT (by rfl) (Eq.symm (decide_eq_false fun h => ?_))
             have h3 := h.2.2.2.2.2.2 i hil
             unfold watP at h3
             simp [-List.getD_eq_getElem?_getD] at h36
             grind
            ·simp only [band, bor, Int.toNat_natCast] at h36
             rw [offL_at p s 4 hil] at h36
             refine sk (rg [] rfl ?_)
             refine ⟨i + 1, ?_, ?_, ?_⟩
             ·exact ⟨hil, all_succ hni (by unfold watP; simp [-List.getD_eq_getElem?_getD] at h36; grind)⟩
             ·refine em [] trivial ⟨⟨rfl, _, rfl, cvt⟩, ⟨rfl, _, rfl, cvt⟩, ⟨rfl, _, rfl, cvt⟩, ⟨rfl, _, rfl, cvt⟩, trivial⟩ ⟨obs rfl, trivial⟩
             ·(try simp only []); first | omega | grind
           ·have hil : i = 6 := by simp [-List.getD_eq_getElem?_getD] at h34; omega
            subst hil
            refine xt (sq (rg [] rfl ?_))
            refine WP.ret ?_
            change Fin ..
            exact fin1 hT (by rfl) (Eq.symm (decide_eq_true ⟨hr.1, hr.2, hn, hno, hng, hnc, hni⟩))
end Go.Ab


/- The reference: programs checked. -/
set_option autoImplicit false
set_option maxRecDepth 20000
set_option maxHeartbeats 4000000
set_option linter.unusedSimpArgs false
set_option linter.unusedVariables false
namespace Go.Ab
open Go.Proofs
theorem rpcheck_ac (p : PProg) : AC Tryz.prog T tysN 61 [encProg p] [] (checkA p) [] := by
 refine AC_intro hT Tryz.func61 rfl rfl (Nat.le_of_ble_eq_true rfl) ?_
 refine sq (rg [] rfl ?_)
 refine sq (sq (rg [] rfl ?_))
 refine cd rfl (fun h1 => ?_) (fun h1 => ?_)
 ·have hb : szB p = true := by
    simp only [bor] at h1
    exact h1
  have hw : wholeF p = 30 := by rw [wholeF, if_pos hb]
  refine sq (rg [] rfl ?_)
  refine WP.ret ?_
  change Fin ..
  exact fin_spot (e := 30) (a := 0) (b := 0) (by rw [checkF, hw, if_pos (by decide)]) rfl rfl rfl rfl rfl rfl (conv_eq rfl)
 ·have hb0 : szB p = false := by
    simp only [bor] at h1
    exact h1
  have hcl : p.chans.length ≤ 4 ∧ p.funcs.length ≤ 8 := by
    have h9 := hb0
    simp [szB] at h9; omega
  refine sk (sq (sq (rg [] rfl ?_)))
  refine bk ?_
  refine WP.loop (α := Nat) (fun i => mkSt [(1, .rp 26 (encProg p)), (3, .ptr (.s 3 0) 1 0 []), (46, ints false p.chans), (47, .int p.chans.length), (48, .int i)] [(.s 3 0, .cells ⟨128, 1, fun _ => spotA 0 0, 0⟩)]) (fun i => i ≤ p.chans.length ∧ ∀ j, j < i → chanF (p.chans.getD j 0) = 0) (fun i => p.chans.length - i) ?_ ?_
  ·refine ⟨0, ?_, ?_⟩
   ·exact ⟨Nat.zero_le _, fun j hj => by omega⟩
   ·refine em [(.s 1 0, 1)] ⟨⟨_, rfl, Nat.le_refl _⟩, trivial⟩ ⟨⟨rfl, _, rfl, conv_rpe rfl rfl (by decide) rfl rfl rfl⟩, ⟨rfl, _, rfl, cvt⟩, ⟨rfl, _, rfl, cvt⟩, ⟨rfl, _, rfl, cvt⟩, ⟨rfl, _, rfl, cvt⟩, trivial⟩ ⟨obs rfl, trivial⟩
  ·rintro i ⟨hi, hn⟩
   refine sq (rg [] rfl ?_)
   refine sq ?_
   refine cd rfl (fun h4 => ?_) (fun h4 => ?_)
   ·have hil : i < p.chans.length := by simpa using h4
    refine sk (sq (bk (sq (rgs [] rfl ?_ ?_))))
    ·simp [holdsC, under]; omega
    refine sq (rg [] rfl ?_)
    refine cd rfl (fun h6 => ?_) (fun h6 => ?_)
    ·have hx : chanF (p.chans.getD i 0) = 31 := by
       simp only [bor] at h6
       exact if_pos h6
     have hw : wholeF p = 31 := by rw [wholeF, hb0, if_neg (by simp), fstE_at hil hn (by rw [hx]; decide), hx]
     refine sq (rg [] rfl ?_)
     refine WP.ret ?_
     change Fin ..
     exact fin_spot (e := 31) (a := 0) (b := 0) (by rw [checkF, hw, if_pos (by decide)]) rfl rfl rfl rfl rfl rfl (conv_eq rfl)
    ·have hx : chanF (p.chans.getD i 0) = 0 := by
       simp only [bor] at h6
       exact if_neg (by rw [show (decide (p.chans.getD i 0 < 0) || decide (p.chans.getD i 0 > 4)) = false from h6]; decide)
     refine sk (rg [] rfl ?_)
     refine ⟨i + 1, ?_, ?_, ?_⟩
     ·exact ⟨hil, below_succ hn hx⟩
     ·refine em [] trivial ⟨⟨rfl, _, rfl, cvt⟩, ⟨rfl, _, rfl, cvt⟩, ⟨rfl, _, rfl, cvt⟩, ⟨rfl, _, rfl, cvt⟩, ⟨rfl, _, rfl, cvt⟩, trivial⟩ ⟨obs rfl, trivial⟩
     ·(try simp only []); first | omega | grind
   ·have hil : i = p.chans.length := by simp at h4; omega
    subst hil
    have hw : wholeF p = 0 := by rw [wholeF, hb0, if_neg (by simp), fstE_all hn]
    clear hn hi
    have hfl := hcl.2
    refine xt (sq (sq (rg [] rfl ?_)))
    refine bk ?_
    refine WP.loop (α := Nat) (fun i => mkSt [(1, .rp 26 (encProg p)), (3, .ptr (.s 3 0) 1 0 []), (61, rowP 100 encFun fun0 p.funcs), (62, .int p.funcs.length), (63, .int i)] [(.s 3 0, .cells ⟨128, 1, fun _ => spotA 0 0, 0⟩)]) (fun i => i ≤ p.funcs.length ∧ ∀ j, j < i → (funE p (funAt p j) (j == 0)).1 = 0) (fun i => p.funcs.length - i) ?_ ?_
    ·refine ⟨0, ?_, ?_⟩
     ·exact ⟨Nat.zero_le _, fun j hj => by omega⟩
     ·refine em [] trivial ⟨⟨rfl, _, rfl, cvt⟩, ⟨rfl, _, rfl, cvt⟩, ⟨rfl, _, rfl, cvt⟩, ⟨rfl, _, rfl, cvt⟩, ⟨rfl, _, rfl, cvt⟩, trivial⟩ ⟨obs rfl, trivial⟩
    ·rintro i ⟨hi, hn⟩
     refine sq (rg [] rfl ?_)
     refine sq ?_
     refine cd rfl (fun h10 => ?_) (fun h10 => ?_)
     ·have hil : i < p.funcs.length := by simpa using h10
      refine sk (sq (bk (sq (rgs [] rfl ?_ ?_))))
      ·simp [holdsC, under]; omega
      refine sq (sq (rgs [CG.pure (.bool (formedF (funAt p i) (i == 0)))] rfl ?_ ?_))
      ·have hz := formed_ac i (funAt p i)
       refine ⟨rfl, ?_⟩
       exact hz
      refine cd rfl (fun h12 => ?_) (fun h12 => ?_)
      ·have hb : formedF (funAt p i) (i == 0) = false := by simpa using h12
       refine sq (rg [] rfl ?_)
       refine WP.ret ?_
       change Fin ..
       exact fin_spot (e := 32) (a := i) (b := 0) (check_at (e := 32) hw hil hn (by rw [funE, if_pos hb]) (by decide)) rfl rfl rfl rfl rfl rfl (conv_eq (agg_ext (fun q => by match q with | 0 | 1 | q + 2 => rfl)))
      ·have hb : formedF (funAt p i) (i == 0) = true := by simpa using h12
       have h64 : (funAt p i).code.length ≤ 64 ∧ 1 ≤ (funAt p i).code.length := by
         have h1 : szF (funAt p i) (i == 0) = true := by
           have h2 := hb
           rw [formedF, Bool.and_eq_true] at h2
           exact h2.1
         rw [szF_iff] at h1
         omega
       refine sk (sq (rgs [CG.pure (.int (selsF p (funAt p i)))] rfl ?_ ?_))
       ·have hs := rselects_ac p (funAt p i) (i == 0) hb
        refine ⟨rfl, ?_⟩
        exact hs
       refine sq (sq (rg [] rfl ?_))
       refine cd rfl (fun h15 => ?_) (fun h15 => ?_)
       ·have hs : selsF p (funAt p i) ≠ 0 := by simpa using h15
        refine sq (rg [] rfl ?_)
        refine WP.ret ?_
        change Fin ..
        exact fin_spot (e := selsF p (funAt p i)) (a := i) (b := 0) (check_at hw hil hn (by rw [funE, if_neg (by rw [hb]; decide), if_pos hs]) hs) rfl rfl rfl rfl rfl rfl (conv_eq (agg_ext (fun q => by match q with | 0 | 1 | q + 2 => rfl)))
       ·have hs : selsF p (funAt p i) = 0 := by simpa using h15
        refine sk (sq (sq (rg [] rfl ?_)))
        refine bk ?_
        refine WP.loop (α := Nat) (fun k => mkSt [(1, .rp 26 (encProg p)), (3, .ptr (.s 3 0) 1 0 []), (6, .int i), (7, .rp 100 (encFun (funAt p i))), (61, rowP 100 encFun fun0 p.funcs), (62, .int p.funcs.length), (63, .int i), (83, rowP 120 encIns ins0 (funAt p i).code), (84, .int (funAt p i).code.length), (85, .int k)] [(.s 3 0, .cells ⟨128, 1, fun _ => spotA 0 0, 0⟩)]) (fun k => k ≤ (funAt p i).code.length ∧ ∀ j, j < k → instrF p (funAt p i) ((funAt p i).code.getD j ins0) = 0) (fun k => (funAt p i).code.length - k) ?_ ?_
        ·refine ⟨0, ?_, ?_⟩
         ·exact ⟨Nat.zero_le _, fun j hj => by omega⟩
         ·refine em [(.s 7 0, 1)] ⟨⟨_, rfl, Nat.le_refl _⟩, trivial⟩ ⟨⟨rfl, _, rfl, cvt⟩, ⟨rfl, _, rfl, cvt⟩, ⟨rfl, _, rfl, cvt⟩, ⟨rfl, _, rfl, conv_rpe rfl rfl (by decide) rfl rfl rfl⟩, ⟨rfl, _, rfl, cvt⟩, ⟨rfl, _, rfl, cvt⟩, ⟨rfl, _, rfl, cvt⟩, ⟨rfl, _, rfl, cvt⟩, ⟨rfl, _, rfl, cvt⟩, ⟨rfl, _, rfl, cvt⟩, trivial⟩ ⟨obs rfl, trivial⟩
        ·rintro k ⟨hk, hc⟩
         refine sq (rg [] rfl ?_)
         refine sq ?_
         refine cd rfl (fun h18 => ?_) (fun h18 => ?_)
         ·have hkl : k < (funAt p i).code.length := by simpa using h18
          refine sk (sq (bk (sq (rgs [] rfl ?_ ?_))))
          ·have hkl2 : k < (p.funcs[i]?.getD fun0).code.length := hkl
           simp [holdsC, under]; omega
          refine sq (rgs [CG.pure (.int (instrF p (funAt p i) ((funAt p i).code.getD k ins0)))] rfl ?_ ?_)
          ·have hx := rinstr_ac p (funAt p i) ((funAt p i).code.getD k ins0)
           refine ⟨rfl, ?_⟩
           exact hx
          refine sq (rg [] rfl ?_)
          refine cd rfl (fun h21 => ?_) (fun h21 => ?_)
          ·have hx : instrF p (funAt p i) ((funAt p i).code.getD k ins0) ≠ 0 := by simpa using h21
           refine sq (rg [] rfl ?_)
           refine WP.ret ?_
           change Fin ..
           exact fin_spot (e := instrF p (funAt p i) ((funAt p i).code.getD k ins0)) (a := i) (b := k) (check_at hw hil hn (by rw [funE, if_neg (by rw [hb]; decide), if_neg (fun h => h hs), fstE_at hkl hc hx, fkE_at hkl hc hx, if_pos hx]) hx) rfl rfl rfl rfl rfl rfl (conv_eq (agg_ext (fun q => by match q with | 0 | 1 | q + 2 => rfl)))
          ·have hx : instrF p (funAt p i) ((funAt p i).code.getD k ins0) = 0 := by simpa using h21
           refine sk (rg [] rfl ?_)
           refine ⟨k + 1, ?_, ?_, ?_⟩
           ·exact ⟨hkl, below_succ hc hx⟩
           ·refine em [] trivial ⟨⟨rfl, _, rfl, cvt⟩, ⟨rfl, _, rfl, cvt⟩, ⟨rfl, _, rfl, cvt⟩, ⟨rfl, _, rfl, cvt⟩, ⟨rfl, _, rfl, cvt⟩, ⟨rfl, _, rfl, cvt⟩, ⟨rfl, _, rfl, cvt⟩, ⟨rfl, _, rfl, cvt⟩, ⟨rfl, _, rfl, cvt⟩, ⟨rfl, _, rfl, cvt⟩, trivial⟩ ⟨obs rfl, trivial⟩
           ·(try simp only []); first | omega | grind
         ·have hkl : k = (funAt p i).code.length := by simp only [decide_eq_false_iff_not] at h18; omega
          subst hkl
          have ho : ((funAt p i).code.getD (IntKind.i64.wrap (((funAt p i).code.length : Int) - 1)).toNat ins0).op = lastO (funAt p i) := by
            have hlst : (funAt p i).code.getD (IntKind.i64.wrap (((funAt p i).code.length : Int) - 1)).toNat ins0 = (funAt p i).code.getD ((funAt p i).code.length - 1) ins0 := by
              rw [wrap_id (by omega) (by omega)]
              congr 1
              omega
            rw [hlst]; rfl
          refine xt (sq (rgs [] rfl ?_ ?_))
          ·have hc64 : (p.funcs[i]?.getD fun0).code.length ≤ 64 ∧ 1 ≤ (p.funcs[i]?.getD fun0).code.length := h64
           simp [holdsC, under]
           rw [wrap_id (by omega) (by omega)]
           omega
          refine sq (rg [] rfl ?_)
          refine cd rfl (fun h25 => ?_) (fun h25 => ?_)
          ·have he : endO (lastO (funAt p i)) = false := by
             simp only [band, Bool.and_eq_true, bne_iff_ne] at h25
             rw [← ho]
             exact endO_no (by simpa using h25.1.1) (by simpa using h25.1.2) (by simpa using h25.2)
           refine sq (dr [] rfl ?_)
           refine WP.ret ?_
           change Fin ..
           exact fin_spot (e := 39) (a := i) (b := IntKind.i64.wrap (((funAt p i).code.length : Int) - 1)) (by
             rw [wrap_id (by omega) (by omega)]
             exact check_at hw hil hn (by rw [funE, if_neg (by rw [hb]; decide), if_neg (fun h => h hs), if_neg (fun h => h (fstE_all hc)), if_neg (by rw [he]; decide)]) (by decide)) rfl rfl rfl rfl rfl rfl (conv_eq (agg_ext (fun q => by match q with | 0 | 1 | q + 2 => rfl)))
          ·have he : endO (lastO (funAt p i)) = true := by
             rw [← ho]
             have e := h25
             simp only [band] at e
             cases hz : endO ((funAt p i).code.getD (IntKind.i64.wrap (((funAt p i).code.length : Int) - 1)).toNat ins0).op with
             | true => rfl
             | false =>
               exfalso
               simp only [endO, Bool.or_eq_false_iff] at hz
               simp only [bne, hz.1.1, hz.1.2, hz.2] at e
               cases e
           refine sk (rg [] rfl ?_)
           refine ⟨i + 1, ?_, ?_, ?_⟩
           ·refine ⟨hil, below_succ hn ?_⟩
            rw [funE, if_neg (by rw [hb]; decide), if_neg (fun h => h hs), if_neg (fun h => h (fstE_all hc)), if_pos he]
           ·refine em [] trivial ⟨⟨rfl, _, rfl, cvt⟩, ⟨rfl, _, rfl, cvt⟩, ⟨rfl, _, rfl, cvt⟩, ⟨rfl, _, rfl, cvt⟩, ⟨rfl, _, rfl, cvt⟩, trivial⟩ ⟨obs rfl, trivial⟩
           ·(try simp only []); first | omega | grind
     ·have hil : i = p.funcs.length := by simp at h10; omega
      subst hil
      refine xt (sq (rg [] rfl ?_))
      refine WP.ret ?_
      change Fin ..
      exact fin_spot (e := 0) (a := 0) (b := 0) (check_ok hw hn) rfl rfl rfl rfl rfl rfl (conv_eq rfl)
theorem right_ac (p : PProg) : AC Tryz.prog T tysN 24 [encProg p] [] (.bool ((checkF p).1 == 0)) [] := by
 refine AC_intro hT Tryz.func24 rfl rfl (Nat.le_of_ble_eq_true rfl) ?_
 refine sq (rg [] rfl ?_)
 refine sq (rgs [CG.pure (checkA p)] rfl ?_ ?_)
 ·have hc := rpcheck_ac p
  exact ⟨⟨rfl, hc⟩, rfl, Nat.le_refl _⟩
 refine sq (rg [] rfl ?_)
 refine WP.ret ?_
 change Fin ..
 exact fin1 hT (by rfl) rfl
end Go.Ab


/- States of a program: the reference's Valid. -/
set_option autoImplicit false
set_option maxRecDepth 20000
set_option maxHeartbeats 4000000
set_option linter.unusedSimpArgs false
set_option linter.unusedVariables false
namespace Go.Ab
open Go.Proofs
end Go.Ab


/- Ab, part 51: a contract of the library, at numbers. -/
set_option autoImplicit false
set_option linter.unusedVariables false
namespace Go.Ab
section
variable {P : Program} {T : Nat → TI} {N : Nat}
theorem AC.of_calls {f : FuncId} {xs : List Value} {r : Value} {ra : AV} (hc : callable P f) (hr : ∀ (I : Imm) (ρ : Pl), RepV T N I ρ ra r)
    (h : ∀ w : World, (∀ (b o n : Nat), (T b).glb[o]? = some n → w.cell? ⟨b, o, none⟩ = some (.int .u8 n)) → Calls P f xs.toArray w fun e w' => e = .returned r ∧ w' = w) : AC P T N f (xs.map .v) [] ra [] := by
  refine ⟨hc, fun I ρ w vs hl hv hw => ?_⟩
  have e : vs = xs := by
    refine List.ext_getElem (by simpa using hl) fun i h1 h2 => ?_
    have := hv i (.v xs[i]) vs[i] (by simp [h2]) (by simp [h1])
    exact (this.v).1
  subst e
  refine (h w (fun b o n hg => hw.imm _ _ _ (hw.gl b o n hg))).mono ?_
  rintro e w' ⟨rfl, rfl⟩
  exact ⟨r, I, ρ, rfl, Ev.refl _ _ _, hr I ρ, hw⟩
theorem finCT (hT : TOK P T N) {nt k j t i : Nat} {st : St} {y : AV} {a e : Int} {B : Blk} (h : st.t k = some (.always, .ptr (.s j 0) 1 0 [])) (h2 : st.t i = some (.always, .int a)) (hm : st.m (.s j 0) = some (.cells B)) (hy : Conv st.m (fun id => lookF id []) T (B.get 0) y) (he : a = e)
    (hno : noIds y = true := by rfl) (hok : okIds [.s j 0] y = true := by rfl) (hnt : notTup y = true := by rfl) (hik : Nat.beq i k = false := by rfl) (hty : B.ty = t := by rfl) (hn : B.n = 1 := by rfl) (hfz : B.fz = 0 := by rfl) : Fin T N nt 0 [.cell k t, .tmp i] (.tup [y, .int e]) [] st := by
  obtain ⟨ty, n, get, fz⟩ := B
  simp only at hty hn hfz hy
  subst hty hn hfz he
  refine Fin.ent (Ent.mk (P := P) hT [] (ts := [(k, .ptr (.s j 0) 1 0 []), (i, .int a)]) (ms := [(.s j 0, .cells ⟨ty, 1, fun _ => y, 0⟩)]) trivial ⟨⟨by simp [okIds, hasId, idbeq_self], _, h, conv_eq rfl⟩, ⟨rfl, _, h2, conv_eq rfl⟩, trivial⟩ ⟨⟨fun _ _ => hok, .inl ⟨_, hm, _, _, rfl, Nat.le_refl _, Nat.zero_le _, Nat.zero_le _, q0 hy⟩⟩, trivial⟩ rfl) ?_
  have h1 : (mkSt [(k, AV.ptr (.s j 0) 1 0 []), (i, .int a)] [(.s j 0, Ob.cells ⟨ty, 1, fun _ => y, 0⟩)]).m (.s j 0) = some (.cells ⟨ty, 1, fun _ => y, 0⟩) := by simp [mkSt, lookI, idbeq_self]
  have hkk : Nat.beq k k = true := by simp
  have hii : Nat.beq i i = true := by simp
  refine fin_mk hT [(.s j 0, 1)] (ts := [(k, .rp ty y), (i, .int a)]) (l := [y, .int a]) ⟨⟨_, h1, Nat.le_refl _⟩, trivial⟩ ⟨⟨rfl, .ptr (.s j 0) 1 0 [], by simp only [mkSt, lookN, hkk]; rfl, ?_⟩, ⟨rfl, _, by simp only [mkSt, lookN, hik, hii]; rfl, conv_eq rfl⟩, trivial⟩ trivial rfl ?_ rfl
  · exact conv_rpe h1 rfl (by simp [lookF, idbeq_self]) rfl (by show y.at [] = y; cases y <;> rfl) hno
  · simp only [resL, mkSt, lookN, hkk, hii, hik, cond_true, cond_false, Option.map_some, ldA, isTy, pathTy, nOf, hnt]
    have ht : Nat.beq ty ty = true := by simp
    simp [ldA, ht, show notTup (AV.int a) = true from rfl, nOf, andC, hnt]
theorem finC2T (hT : TOK P T N) {nt k j t k' j' t' i : Nat} {st : St} {y y' : AV} {a e : Int} {B B' : Blk} (h : st.t k = some (.always, .ptr (.s j 0) 1 0 [])) (h' : st.t k' = some (.always, .ptr (.s j' 0) 1 0 [])) (h2 : st.t i = some (.always, .int a)) (hm : st.m (.s j 0) = some (.cells B)) (hm' : st.m (.s j' 0) = some (.cells B'))
    (hy : Conv st.m (fun id => lookF id []) T (B.get 0) y) (hy' : Conv st.m (fun id => lookF id []) T (B'.get 0) y') (he : a = e)
    (hno : noIds y = true := by rfl) (hok : okIds [.s j 0, .s j' 0] y = true := by rfl) (hnt : notTup y = true := by rfl) (hno' : noIds y' = true := by rfl) (hok' : okIds [.s j 0, .s j' 0] y' = true := by rfl) (hnt' : notTup y' = true := by rfl) (hik : Nat.beq i k = false := by rfl) (hik' : Nat.beq i k' = false := by rfl) (hkk' : Nat.beq k' k = false := by rfl) (hjj : Nat.beq j' j = false := by rfl)
    (hty : B.ty = t := by rfl) (hn : B.n = 1 := by rfl) (hfz : B.fz = 0 := by rfl) (hty' : B'.ty = t' := by rfl) (hn' : B'.n = 1 := by rfl) (hfz' : B'.fz = 0 := by rfl) : Fin T N nt 0 [.cell k t, .cell k' t', .tmp i] (.tup [y, y', .int e]) [] st := by
  obtain ⟨ty, n, get, fz⟩ := B
  obtain ⟨ty', n', get', fz'⟩ := B'
  simp only at hty hn hfz hy hty' hn' hfz' hy'
  subst hty hn hfz he hty' hn' hfz'
  have hkk : Nat.beq k k = true := by simp
  have hkk2 : Nat.beq k' k' = true := by simp
  have hii : Nat.beq i i = true := by simp
  have hs1 : Id.beq (.s j 0) (.s j 0) = true := idbeq_self _
  have hs2 : Id.beq (.s j' 0) (.s j' 0) = true := idbeq_self _
  have hs3 : Id.beq (.s j' 0) (.s j 0) = false := by simp [Id.beq, hjj]
  refine Fin.ent (Ent.mk (P := P) hT [] (ts := [(k, .ptr (.s j 0) 1 0 []), (k', .ptr (.s j' 0) 1 0 []), (i, .int a)]) (ms := [(.s j 0, .cells ⟨ty, 1, fun _ => y, 0⟩), (.s j' 0, .cells ⟨ty', 1, fun _ => y', 0⟩)]) trivial ⟨⟨by simp [okIds, hasId, idbeq_self], _, h, conv_eq rfl⟩, ⟨by simp [okIds, hasId, idbeq_self], _, h', conv_eq rfl⟩, ⟨rfl, _, h2, conv_eq rfl⟩, trivial⟩
    ⟨⟨fun _ _ => hok, .inl ⟨_, hm, _, _, rfl, Nat.le_refl _, Nat.zero_le _, Nat.zero_le _, q0 hy⟩⟩, ⟨fun _ _ => hok', .inl ⟨_, hm', _, _, rfl, Nat.le_refl _, Nat.zero_le _, Nat.zero_le _, q0 hy'⟩⟩, trivial⟩ rfl) ?_
  have h1 : (mkSt [(k, AV.ptr (.s j 0) 1 0 []), (k', .ptr (.s j' 0) 1 0 []), (i, .int a)] [(.s j 0, Ob.cells ⟨ty, 1, fun _ => y, 0⟩), (.s j' 0, Ob.cells ⟨ty', 1, fun _ => y', 0⟩)]).m (.s j 0) = some (.cells ⟨ty, 1, fun _ => y, 0⟩) := by simp only [mkSt, lookI, hs1]; rfl
  have h3 : (mkSt [(k, AV.ptr (.s j 0) 1 0 []), (k', .ptr (.s j' 0) 1 0 []), (i, .int a)] [(.s j 0, Ob.cells ⟨ty, 1, fun _ => y, 0⟩), (.s j' 0, Ob.cells ⟨ty', 1, fun _ => y', 0⟩)]).m (.s j' 0) = some (.cells ⟨ty', 1, fun _ => y', 0⟩) := by simp only [mkSt, lookI, hs2, hs3]; rfl
  refine fin_mk hT [(.s j 0, 1), (.s j' 0, 1)] (ts := [(k, .rp ty y), (k', .rp ty' y'), (i, .int a)]) (l := [y, y', .int a]) ⟨⟨_, h1, Nat.le_refl _⟩, ⟨_, h3, Nat.le_refl _⟩, trivial⟩
    ⟨⟨rfl, .ptr (.s j 0) 1 0 [], by simp only [mkSt, lookN, hkk]; rfl, ?_⟩, ⟨rfl, .ptr (.s j' 0) 1 0 [], by simp only [mkSt, lookN, hkk', hkk2]; rfl, ?_⟩, ⟨rfl, _, by simp only [mkSt, lookN, hik, hik', hii]; rfl, conv_eq rfl⟩, trivial⟩ trivial rfl ?_ rfl
  · exact conv_rpe h1 rfl (by simp [lookF, idbeq_self]) rfl (by show y.at [] = y; cases y <;> rfl) hno
  · exact conv_rpe h3 rfl (by simp [lookF, hs3, idbeq_self]) rfl (by show y'.at [] = y'; cases y' <;> rfl) hno'
  · have ht : Nat.beq ty ty = true := by simp
    have ht' : Nat.beq ty' ty' = true := by simp
    simp only [resL, mkSt, lookN, hkk, hkk2, hkk', hii, hik, hik', cond_true, cond_false, Option.map_some]
    simp [ldA, ht, ht', show notTup (AV.int a) = true from rfl, nOf, andC, hnt, hnt']
end
end Go.Ab
