/- Part 16 of a proof of a statement about the given program: an abstract machine over the model, proved sound, and contracts of the functions that the statement reaches; the last part proves the statement, for every input, with no condition. -/
import Derived.Test.YtkdnjnbocjpmfaaGreatX14
import Derived.Test.YtkdnjnbocjpmfaaGreatX13
set_option linter.unusedSimpArgs false
set_option linter.unusedVariables false
/- Small things; SameInts. -/
set_option autoImplicit false
namespace Go.Ab
open Go.Proofs
def ints (f : Bool) (l : List Int) : AV := .row 3 f l.length (fun i => .int (l.getD i 0))
/-- Equal up to a place. -/
def eqTo (a b : List Int) (i : Nat) : Prop := ∀ j, j < i → a.getD j 0 = b.getD j 0
theorem sameInts_ac (f g : Bool) (a b : List Int) : AC Tryz.prog T tysN 26 [ints f a, ints g b] [] (.bool (decide (a = b))) [] := by
  refine AC_intro hT Tryz.func26 rfl rfl (Nat.le_of_ble_eq_true rfl) ?_
  refine WP.rowlen 0 rfl (fun hla => ?_)
  refine WP.seq (WP.reg hT hE [] rfl ?_ ?_)
  · trivial
  dsimp only [thenP]
  refine WP.seq (WP.seq ?_)
  refine WP.reg hT hE [] rfl ?_ ?_
  · trivial
  dsimp only [thenP]
  refine WP.cond rfl (fun h => ?_) (fun h => ?_)
  · refine WP.seq (WP.reg hT hE [] rfl ?_ ?_)
    · trivial
    refine WP.ret ?_
    refine ⟨[(4, .bool (decide (a = b)))], Ent.mk hT [] trivial ⟨⟨rfl, _, rfl, conv_eq ?_⟩, trivial⟩ trivial rfl, _, rfl, trivial, rfl⟩
    have : a ≠ b := by rintro rfl; simp at h
    simp [this]
  · refine WP.skip ?_
    dsimp only [thenP]
    have hlen : a.length = b.length := by simp at h; omega
    refine WP.seq (WP.seq ?_)
    refine WP.reg hT hE [] rfl ?_ ?_
    · trivial
    dsimp only [thenP]
    refine WP.block ?_
    refine WP.loop (α := Nat) (fun i => mkSt [(0, ints f a), (1, ints g b), (12, .int a.length), (13, .int i)] []) (fun i => i ≤ a.length ∧ eqTo a b i) (fun i => a.length - i) ?_ ?_
    · refine ⟨0, ⟨Nat.zero_le _, fun j hj => by omega⟩, Ent.mk hT [] trivial ?_ trivial rfl⟩
      exact ⟨⟨rfl, _, rfl, conv_eq rfl⟩, ⟨rfl, _, rfl, conv_eq rfl⟩, ⟨rfl, _, rfl, conv_eq rfl⟩, ⟨rfl, _, rfl, conv_eq rfl⟩, trivial⟩
    · rintro i ⟨hi, heq⟩
      refine WP.seq (WP.reg hT hE [] rfl ?_ ?_)
      · trivial
      dsimp only [thenP]
      refine WP.seq (WP.cond rfl (fun h => ?_) (fun h => ?_))
      · refine WP.skip ?_
        dsimp only [thenP]
        have hil : i < a.length := by simpa using h
        refine WP.seq (WP.block ?_)
        refine WP.seq (WP.reg hT hE [] rfl ?_ ?_)
        · trivial
        dsimp only [thenP]
        refine WP.seq (WP.drw hT hE hM [] rfl ?_ ?_)
        · simp only [holdsC, under]; omega
        dsimp only [thenP]
        refine WP.cond rfl (fun h => ?_) (fun h => ?_)
        · refine WP.seq (WP.reg hT hE [] rfl ?_ ?_)
          · trivial
          refine WP.ret ?_
          refine ⟨[(4, .bool (decide (a = b)))], Ent.mk hT [] trivial ⟨⟨rfl, _, rfl, conv_eq ?_⟩, trivial⟩ trivial rfl, _, rfl, trivial, rfl⟩
          have : a ≠ b := by rintro rfl; simp at h
          simp [this]
        · refine WP.skip ?_
          dsimp only [blkP, thenP]
          refine WP.reg hT hE [] rfl ?_ ?_
          · trivial
          dsimp only [thenP]
          refine ⟨i + 1, ⟨hil, fun j hj => ?_⟩, Ent.mk hT [] trivial ?_ trivial rfl, by omega⟩
          · rcases Nat.lt_or_ge j i with hj' | hj'
            · exact heq j hj'
            · have : j = i := by omega
              subst this
              simpa using h
          · refine ⟨⟨rfl, _, rfl, conv_eq rfl⟩, ⟨rfl, _, rfl, conv_eq rfl⟩, ⟨rfl, _, rfl, conv_eq rfl⟩, ⟨rfl, _, rfl, conv_eq ?_⟩, trivial⟩
            rw [wrap_id (by omega) (by omega)]
            simp
      · refine WP.exit ?_
        dsimp only [thenP, blkP]
        have hil : i = a.length := by simp at h; omega
        refine WP.seq (WP.reg hT hE [] rfl ?_ ?_)
        · trivial
        refine WP.ret ?_
        refine ⟨[(4, .bool (decide (a = b)))], Ent.mk hT [] trivial ⟨⟨rfl, _, rfl, conv_eq ?_⟩, trivial⟩ trivial rfl, _, rfl, trivial, rfl⟩
        have : a = b := by
          refine List.ext_getElem hlen (fun j h1 h2 => ?_)
          have := heq j (by omega)
          simpa [h1, h2] using this
        simp [this]
theorem finI {P : Program} {T : Nat → TI} {N nt : Nat} (hT : TOK P T N) {t : Nat → Option (D × AV)} {m : Id → Option Ob} {k : Nat} {b r : Int} (h : t k = some (.always, .v (.int .i64 b))) (e : b = r) : Fin T N nt 0 [.tmp k] (.int r) [] ⟨t, m⟩ := by
  subst e
  refine ⟨[(k, .int b)], Ent.mk hT [] trivial ⟨⟨rfl, _, h, conv_eq rfl⟩, trivial⟩ trivial rfl, ([.int b], none), ?_, trivial, rfl⟩
  simp [resL, mkSt, lookN, notTup]
theorem bor (a b : Bool) : (bif a then true else b) = (a || b) := by cases a <;> rfl
theorem band (a b : Bool) : (bif a then b else false) = (a && b) := by cases a <;> rfl
end Go.Ab


/- Programs; what is wrong with an operand. -/
set_option autoImplicit false
set_option maxRecDepth 20000
set_option maxHeartbeats 1000000
set_option linter.unusedSimpArgs false
set_option linter.unusedVariables false
namespace Go.Ab
open Go.Proofs
structure PVar where
  atomic : Bool
  init : Int
structure PIns where
  op : Int
  a : Int
  b : Int
  c : Int
  n : Int
structure PCase where
  send : Bool
  chan : Int
  reg : Int
  to : Int
structure PSel where
  cases : List PCase
  els : Int
structure PFun where
  params : Int
  regs : Int
  code : List PIns
  sels : List PSel
structure PProg where
  vars : List PVar
  locks : Int
  chans : List Int
  funcs : List PFun
def encVar (x : PVar) : AV := stru 101 [.bool x.atomic, .int x.init]
def encIns (x : PIns) : AV := stru 162 [.int x.op, .int x.a, .int x.b, .int x.c, .int x.n]
def encCase (x : PCase) : AV := stru 223 [.bool x.send, .int x.chan, .int x.reg, .int x.to]
def rowP {α : Type} (t : Nat) (enc : α → AV) (d : α) (l : List α) : AV := .row t false l.length (fun i => enc (l.getD i d))
def case0 : PCase := ⟨false, 0, 0, 0⟩
def encSel (x : PSel) : AV := stru 221 [rowP 223 encCase case0 x.cases, .int x.els]
def ins0 : PIns := ⟨0, 0, 0, 0, 0⟩
def sel0 : PSel := ⟨[], 0⟩
def encFun (x : PFun) : AV := stru 166 [.int x.params, .int x.regs, rowP 162 encIns ins0 x.code, rowP 221 encSel sel0 x.sels]
def var0 : PVar := ⟨false, 0⟩
def fun0 : PFun := ⟨0, 0, [], []⟩
def encProg (x : PProg) : AV := stru 26 [rowP 101 encVar var0 x.vars, .int x.locks, ints false x.chans, rowP 166 encFun fun0 x.funcs]
def encCk (p : PProg) (f : PFun) : AV := stru 196 [encProg p, encFun f]
def withinB (n most : Int) : Bool := decide (n ≥ 0) && decide (n < most)
theorem within_ac (n m : Int) : AC Tryz.prog T tysN 193 [.int n, .int m] [] (.bool (withinB n m)) [] := by
 refine AC_intro hT Tryz.func193 rfl rfl (Nat.le_of_ble_eq_true rfl) ?_
 refine sq (rg [] rfl ?_)
 refine sq (rg [] rfl ?_)
 refine WP.ret ?_
 change Fin ..
 exact fin1 hT (by rfl) (by rw [band]; rfl)
theorem rwithin_ac (n m : Int) : AC Tryz.prog T tysN 158 [.int n, .int m] [] (.bool (withinB n m)) [] := by
 refine AC_intro hT Tryz.func158 rfl rfl (Nat.le_of_ble_eq_true rfl) ?_
 refine sq (rg [] rfl ?_)
 refine sq (rg [] rfl ?_)
 refine WP.ret ?_
 change Fin ..
 exact fin1 hT (by rfl) (by rw [band]; rfl)
def objF (n most : Int) : Int := if withinB n most then 0 else 36
def regF (f : PFun) (n : Int) : Int := if withinB n f.regs then 0 else 35
def tgtF (f : PFun) (n : Int) : Int := if withinB n f.code.length then 0 else 38
theorem object_ac (n m : Int) : AC Tryz.prog T tysN 170 [.int n, .int m] [] (.int (objF n m)) [] := by
 refine AC_intro hT Tryz.func170 rfl rfl (Nat.le_of_ble_eq_true rfl) ?_
 refine sq (rg [] rfl ?_)
 refine sq (sq (rgs [CG.pure (.bool (withinB n m))] rfl ?_ ?_))
 ·exact within_ac n m
 refine cd rfl (fun h1 => ?_) (fun h1 => ?_)
 ·have h : withinB n m = false := by simpa using h1
  refine sq (rg [] rfl ?_)
  refine WP.ret ?_
  change Fin ..
  exact finI hT (by rfl) (by simp [objF, h])
 ·have h : withinB n m = true := by simpa using h1
  refine sk (sq (rg [] rfl ?_))
  refine WP.ret ?_
  change Fin ..
  exact finI hT (by rfl) (by simp [objF, h])
theorem register_ac (p : PProg) (f : PFun) (n : Int) : AC Tryz.prog T tysN 171 [.rp 196 (encCk p f), .int n] [] (.int (regF f n)) [] := by
 refine AC_intro hT Tryz.func171 rfl rfl (Nat.le_of_ble_eq_true rfl) ?_
 refine sq (rg [] rfl ?_)
 refine sq (sq (rgs [CG.pure (.bool (withinB n f.regs))] rfl ?_ ?_))
 ·exact within_ac n f.regs
 refine cd rfl (fun h1 => ?_) (fun h1 => ?_)
 ·have h : withinB n f.regs = false := by simpa using h1
  refine sq (rg [] rfl ?_)
  refine WP.ret ?_
  change Fin ..
  exact finI hT (by rfl) (by simp [regF, h])
 ·have h : withinB n f.regs = true := by simpa using h1
  refine sk (sq (rg [] rfl ?_))
  refine WP.ret ?_
  change Fin ..
  exact finI hT (by rfl) (by simp [regF, h])
theorem target_ac (p : PProg) (f : PFun) (n : Int) : AC Tryz.prog T tysN 172 [.rp 196 (encCk p f), .int n] [] (.int (tgtF f n)) [] := by
 refine AC_intro hT Tryz.func172 rfl rfl (Nat.le_of_ble_eq_true rfl) ?_
 refine sq (rg [] rfl ?_)
 refine sq (sq (rgs [CG.pure (.bool (withinB n f.code.length))] rfl ?_ ?_))
 ·exact within_ac n f.code.length
 refine cd rfl (fun h1 => ?_) (fun h1 => ?_)
 ·have h : withinB n f.code.length = false := by simpa using h1
  refine sq (rg [] rfl ?_)
  refine WP.ret ?_
  change Fin ..
  exact finI hT (by rfl) (by simp [tgtF, h])
 ·have h : withinB n f.code.length = true := by simpa using h1
  refine sk (sq (rg [] rfl ?_))
  refine WP.ret ?_
  change Fin ..
  exact finI hT (by rfl) (by simp [tgtF, h])
end Go.Ab


/- What is wrong with an operand. -/
set_option autoImplicit false
set_option maxRecDepth 20000
set_option maxHeartbeats 4000000
set_option linter.unusedSimpArgs false
set_option linter.unusedVariables false
namespace Go.Ab
open Go.Proofs
def parF (f : PFun) (n k : Int) : Int := if (k == 0 && n != 0) || (decide (k > 0) && (decide (n < 0) || decide (n > IntKind.i64.wrap (f.regs - k)))) then 35 else 0
def atomF (p : PProg) (n : Int) : Int := if withinB n p.vars.length then (if (p.vars.getD n.toNat var0).atomic then 0 else 37) else 36
def opndF (p : PProg) (f : PFun) (c n : Int) (x : PIns) : Int :=
  if c = 111 then (if n = -1 then 0 else regF f n) else if c = 114 then regF f n else if c = 119 then regF f n else
  if c = 118 then objF n p.vars.length else if c = 97 then atomF p n else if c = 108 then objF n p.locks else
  if c = 99 then objF n p.chans.length else if c = 115 then objF n f.sels.length else if c = 102 then objF n p.funcs.length else
  if c = 116 then tgtF f n else if c = 112 then parF f n (p.funcs.getD x.b.toNat fun0).params else 0
theorem objF_ok {n m : Int} (h : objF n m = 0) : 0 ≤ n ∧ n < m := by
  unfold objF at h
  split at h
  · rename_i hw
    simpa [withinB] using hw
  · cases h
theorem operand_ac (p : PProg) (f : PFun) (c n : Int) (x : PIns) (hx : c = 112 → 0 ≤ x.b ∧ x.b < p.funcs.length) : AC Tryz.prog T tysN 175 [.rp 196 (encCk p f), .v (.int .u8 c), .int n, encIns x] [] (.int (opndF p f c n x)) [] := by
 refine AC_intro hT Tryz.func175 rfl rfl (Nat.le_of_ble_eq_true rfl) ?_
 refine sq (rg [] rfl ?_)
 refine sq (sq (rg [] rfl ?_))
 refine bk (sq (rg [] rfl ?_))
 refine cd rfl (fun h2 => ?_) (fun h2 => ?_)
 ·refine sq (sq (rg [] rfl ?_))
  refine cd rfl (fun h3 => ?_) (fun h3 => ?_)
  ·refine sq (rg [] rfl ?_)
   refine WP.ret ?_
   change Fin ..
   refine finI hT (by rfl) ?_
   first | (simp_all [opndF]; done) | (simp_all [opndF, atomF, objF]; done) | (simp_all [opndF, atomF, objF, parF, bor, band]; done)
  ·refine sk (sq (rgs [CG.pure (.int (regF f n))] rfl ?_ ?_))
   ·exact register_ac p f n
   refine WP.ret ?_
   change Fin ..
   refine finI hT (by rfl) ?_
   first | (simp_all [opndF]; done) | (simp_all [opndF, atomF, objF]; done) | (simp_all [opndF, atomF, objF, parF, bor, band]; done)
 ·refine sq (sq (rg [] rfl ?_))
  refine cd rfl (fun h6 => ?_) (fun h6 => ?_)
  ·refine sk ?_
   refine cd rfl (fun h6 => ?_) (fun h6 => ?_)
   ·refine sq (rgs [CG.pure (.int (regF f n))] rfl ?_ ?_)
    ·exact register_ac p f n
    refine WP.ret ?_
    change Fin ..
    refine finI hT (by rfl) ?_
    first | (simp_all [opndF]; done) | (simp_all [opndF, atomF, objF]; done) | (simp_all [opndF, atomF, objF, parF, bor, band]; done)
   ·simp_all
  ·refine rg [] rfl ?_
   refine cd rfl (fun h7 => ?_) (fun h7 => ?_)
   ·refine sq (rgs [CG.pure (.int (regF f n))] rfl ?_ ?_)
    ·exact register_ac p f n
    refine WP.ret ?_
    change Fin ..
    refine finI hT (by rfl) ?_
    first | (simp_all [opndF]; done) | (simp_all [opndF, atomF, objF]; done) | (simp_all [opndF, atomF, objF, parF, bor, band]; done)
   ·refine sq (rg [] rfl ?_)
    refine cd rfl (fun h9 => ?_) (fun h9 => ?_)
    ·refine sq (sq (rgs [CG.pure (.int (objF n p.vars.length))] rfl ?_ ?_))
     ·exact object_ac n p.vars.length
     refine sq (rg [] rfl ?_)
     refine cd rfl (fun h11 => ?_) (fun h11 => ?_)
     ·refine sq (rg [] rfl ?_)
      refine WP.ret ?_
      change Fin ..
      refine finI hT (by rfl) ?_
      first | (simp_all [opndF]; done) | (simp_all [opndF, atomF, objF]; done) | (simp_all [opndF, atomF, objF, parF, bor, band]; done)
     ·refine sk (sq (rg [] rfl ?_))
      refine WP.ret ?_
      change Fin ..
      refine finI hT (by rfl) ?_
      first | (simp_all [opndF]; done) | (simp_all [opndF, atomF, objF]; done) | (simp_all [opndF, atomF, objF, parF, bor, band]; done)
    ·refine sq (rg [] rfl ?_)
     refine cd rfl (fun h14 => ?_) (fun h14 => ?_)
     ·refine sq (sq (rgs [CG.pure (.int (objF n p.vars.length))] rfl ?_ ?_))
      ·exact object_ac n p.vars.length
      refine sq (rg [] rfl ?_)
      refine cd rfl (fun h16 => ?_) (fun h16 => ?_)
      ·refine sq (rg [] rfl ?_)
       refine WP.ret ?_
       change Fin ..
       refine finI hT (by rfl) ?_
       first | (simp_all [opndF]; done) | (simp_all [opndF, atomF, objF]; done) | (simp_all [opndF, atomF, objF, parF, bor, band]; done)
      ·have hv := objF_ok (show objF n p.vars.length = 0 by simpa using h16)
       refine sk (sq (rgs [] rfl ?_ ?_))
       ·simp [holdsC, under]; omega
       refine cd rfl (fun h18 => ?_) (fun h18 => ?_)
       ·refine sq (rg [] rfl ?_)
        refine WP.ret ?_
        change Fin ..
        refine finI hT (by rfl) ?_
        first | (simp_all [opndF]; done) | (simp_all [opndF, atomF, objF]; done) | (simp_all [opndF, atomF, objF, parF, bor, band]; done)
       ·refine sk (sq (rg [] rfl ?_))
        refine WP.ret ?_
        change Fin ..
        refine finI hT (by rfl) ?_
        first | (simp_all [opndF]; done) | (simp_all [opndF, atomF, objF]; done) | (simp_all [opndF, atomF, objF, parF, bor, band]; done)
     ·refine sq (rg [] rfl ?_)
      refine cd rfl (fun h20 => ?_) (fun h20 => ?_)
      ·refine sq (rgs [CG.pure (.int (objF n p.locks))] rfl ?_ ?_)
       ·exact object_ac n p.locks
       refine WP.ret ?_
       change Fin ..
       refine finI hT (by rfl) ?_
       first | (simp_all [opndF]; done) | (simp_all [opndF, atomF, objF]; done) | (simp_all [opndF, atomF, objF, parF, bor, band]; done)
      ·refine sq (rg [] rfl ?_)
       refine cd rfl (fun h22 => ?_) (fun h22 => ?_)
       ·refine sq (rgs [CG.pure (.int (objF n p.chans.length))] rfl ?_ ?_)
        ·exact object_ac n p.chans.length
        refine WP.ret ?_
        change Fin ..
        refine finI hT (by rfl) ?_
        first | (simp_all [opndF]; done) | (simp_all [opndF, atomF, objF]; done) | (simp_all [opndF, atomF, objF, parF, bor, band]; done)
       ·refine sq (rg [] rfl ?_)
        refine cd rfl (fun h24 => ?_) (fun h24 => ?_)
        ·refine sq (rgs [CG.pure (.int (objF n f.sels.length))] rfl ?_ ?_)
         ·exact object_ac n f.sels.length
         refine WP.ret ?_
         change Fin ..
         refine finI hT (by rfl) ?_
         first | (simp_all [opndF]; done) | (simp_all [opndF, atomF, objF]; done) | (simp_all [opndF, atomF, objF, parF, bor, band]; done)
        ·refine sq (rg [] rfl ?_)
         refine cd rfl (fun h26 => ?_) (fun h26 => ?_)
         ·refine sq (rgs [CG.pure (.int (objF n p.funcs.length))] rfl ?_ ?_)
          ·exact object_ac n p.funcs.length
          refine WP.ret ?_
          change Fin ..
          refine finI hT (by rfl) ?_
          first | (simp_all [opndF]; done) | (simp_all [opndF, atomF, objF]; done) | (simp_all [opndF, atomF, objF, parF, bor, band]; done)
         ·refine sq (rg [] rfl ?_)
          refine cd rfl (fun h28 => ?_) (fun h28 => ?_)
          ·refine sq (rgs [CG.pure (.int (tgtF f n))] rfl ?_ ?_)
           ·exact target_ac p f n
           refine WP.ret ?_
           change Fin ..
           refine finI hT (by rfl) ?_
           first | (simp_all [opndF]; done) | (simp_all [opndF, atomF, objF]; done) | (simp_all [opndF, atomF, objF, parF, bor, band]; done)
          ·refine sq (rg [] rfl ?_)
           refine cd rfl (fun h30 => ?_) (fun h30 => ?_)
           ·have hb := hx (by simpa using h30)
            refine sq (drs [] rfl ?_ ?_)
            ·simp [holdsC, under]; omega
            refine sq (rg [] rfl ?_)
            refine cd rfl (fun h32 => ?_) (fun h32 => ?_)
            ·refine sq (rg [] rfl ?_)
             refine WP.ret ?_
             change Fin ..
             refine finI hT (by rfl) ?_
             first | (simp_all [opndF]; done) | (simp_all [opndF, atomF, objF]; done) | (simp_all [opndF, atomF, objF, parF, bor, band]; done)
            ·refine sk (sq (rg [] rfl ?_))
             refine WP.ret ?_
             change Fin ..
             refine finI hT (by rfl) ?_
             first | (simp_all [opndF]; done) | (simp_all [opndF, atomF, objF]; done) | (simp_all [opndF, atomF, objF, parF, bor, band]; done)
           ·refine sk (sq (rg [] rfl ?_))
            refine WP.ret ?_
            change Fin ..
            refine finI hT (by rfl) ?_
            first | (simp_all [opndF]; done) | (simp_all [opndF, atomF, objF]; done) | (simp_all [opndF, atomF, objF, parF, bor, band]; done)
theorem roperand_ac (p : PProg) (f : PFun) (c n : Int) (x : PIns) (hx : c = 112 → 0 ≤ x.b ∧ x.b < p.funcs.length) : AC Tryz.prog T tysN 162 [encProg p, encFun f, .v (.int .u8 c), .int n, encIns x] [] (.int (opndF p f c n x)) [] := by
 refine AC_intro hT Tryz.func162 rfl rfl (Nat.le_of_ble_eq_true rfl) ?_
 refine sq (rg [] rfl ?_)
 refine sq (sq (rg [] rfl ?_))
 refine bk (sq (sq (rg [] rfl ?_)))
 refine cd rfl (fun h2 => ?_) (fun h2 => ?_)
 ·refine sk ?_
  refine cd rfl (fun h2 => ?_) (fun h2 => ?_)
  ·refine sq (rgs [CG.pure (.bool (withinB n f.regs))] rfl ?_ ?_)
   ·simp [holdsC, under, CG.pure]
    exact rwithin_ac n f.regs
   refine cd rfl (fun h4 => ?_) (fun h4 => ?_)
   ·refine sq (rg [] rfl ?_)
    refine WP.ret ?_
    change Fin ..
    refine finI hT (by rfl) ?_
    first | (simp_all [opndF, regF, tgtF]; done) | (simp_all [opndF, atomF, objF, regF, tgtF]; done) | (simp_all [opndF, atomF, objF, parF, bor, band, regF, tgtF]; done)
   ·refine sk (sq (rg [] rfl ?_))
    refine WP.ret ?_
    change Fin ..
    refine finI hT (by rfl) ?_
    first | (simp_all [opndF, regF, tgtF]; done) | (simp_all [opndF, atomF, objF, regF, tgtF]; done) | (simp_all [opndF, atomF, objF, parF, bor, band, regF, tgtF]; done)
  ·simp_all
 ·refine rg [] rfl ?_
  refine cd rfl (fun h3 => ?_) (fun h3 => ?_)
  ·refine sq (rgs [CG.pure (.bool (withinB n f.regs))] rfl ?_ ?_)
   ·simp [holdsC, under, CG.pure]
    exact rwithin_ac n f.regs
   refine cd rfl (fun h4 => ?_) (fun h4 => ?_)
   ·refine sq (rg [] rfl ?_)
    refine WP.ret ?_
    change Fin ..
    refine finI hT (by rfl) ?_
    first | (simp_all [opndF, regF, tgtF]; done) | (simp_all [opndF, atomF, objF, regF, tgtF]; done) | (simp_all [opndF, atomF, objF, parF, bor, band, regF, tgtF]; done)
   ·refine sk (sq (rg [] rfl ?_))
    refine WP.ret ?_
    change Fin ..
    refine finI hT (by rfl) ?_
    first | (simp_all [opndF, regF, tgtF]; done) | (simp_all [opndF, atomF, objF, regF, tgtF]; done) | (simp_all [opndF, atomF, objF, parF, bor, band, regF, tgtF]; done)
  ·refine sq (rg [] rfl ?_)
   refine cd rfl (fun h6 => ?_) (fun h6 => ?_)
   ·refine sq (rgs [CG.pure (.bool (withinB n f.regs))] rfl ?_ ?_)
    ·have hw := rwithin_ac n f.regs
     simp [holdsC, under, CG.pure]
     exact fun _ => hw
    refine cd rfl (fun h7 => ?_) (fun h7 => ?_)
    ·refine sq (rg [] rfl ?_)
     refine WP.ret ?_
     change Fin ..
     refine finI hT (by rfl) ?_
     first | (simp_all [opndF, regF, tgtF]; done) | (simp_all [opndF, atomF, objF, regF, tgtF]; done) | (simp_all [opndF, atomF, objF, parF, bor, band, regF, tgtF]; done)
    ·refine sk (sq (rg [] rfl ?_))
     refine WP.ret ?_
     change Fin ..
     refine finI hT (by rfl) ?_
     first | (simp_all [opndF, regF, tgtF]; done) | (simp_all [opndF, atomF, objF, regF, tgtF]; done) | (simp_all [opndF, atomF, objF, parF, bor, band, regF, tgtF]; done)
   ·refine sq (rg [] rfl ?_)
    refine cd rfl (fun h9 => ?_) (fun h9 => ?_)
    ·have hb := hx (by simpa using h9)
     refine sq (rgs [] rfl ?_ ?_)
     ·simp [holdsC, under]; omega
     refine sq (rg [] rfl ?_)
     refine cd rfl (fun h11 => ?_) (fun h11 => ?_)
     ·refine sq (rg [] rfl ?_)
      refine WP.ret ?_
      change Fin ..
      refine finI hT (by rfl) ?_
      first | (simp_all [opndF, regF, tgtF]; done) | (simp_all [opndF, atomF, objF, regF, tgtF]; done) | (simp_all [opndF, atomF, objF, parF, bor, band, regF, tgtF]; done)
     ·refine sk (sq (rg [] rfl ?_))
      refine WP.ret ?_
      change Fin ..
      refine finI hT (by rfl) ?_
      first | (simp_all [opndF, regF, tgtF]; done) | (simp_all [opndF, atomF, objF, regF, tgtF]; done) | (simp_all [opndF, atomF, objF, parF, bor, band, regF, tgtF]; done)
    ·refine sq (rg [] rfl ?_)
     refine cd rfl (fun h13 => ?_) (fun h13 => ?_)
     ·refine sq (rgs [CG.pure (.bool (withinB n p.vars.length))] rfl ?_ ?_)
      ·have hw := rwithin_ac n p.vars.length
       simp [holdsC, under, CG.pure]
       exact hw
      refine cd rfl (fun h14 => ?_) (fun h14 => ?_)
      ·refine sq (rg [] rfl ?_)
       refine WP.ret ?_
       change Fin ..
       refine finI hT (by rfl) ?_
       first | (simp_all [opndF, regF, tgtF]; done) | (simp_all [opndF, atomF, objF, regF, tgtF]; done) | (simp_all [opndF, atomF, objF, parF, bor, band, regF, tgtF]; done)
      ·refine sk (sq (rg [] rfl ?_))
       refine WP.ret ?_
       change Fin ..
       refine finI hT (by rfl) ?_
       first | (simp_all [opndF, regF, tgtF]; done) | (simp_all [opndF, atomF, objF, regF, tgtF]; done) | (simp_all [opndF, atomF, objF, parF, bor, band, regF, tgtF]; done)
     ·refine sq (rg [] rfl ?_)
      refine cd rfl (fun h16 => ?_) (fun h16 => ?_)
      ·refine sq (sq (rgs [CG.pure (.bool (withinB n p.vars.length))] rfl ?_ ?_))
       ·have hw := rwithin_ac n p.vars.length
        simp [holdsC, under, CG.pure]
        exact hw
       refine cd rfl (fun h17 => ?_) (fun h17 => ?_)
       ·refine sq (rg [] rfl ?_)
        refine WP.ret ?_
        change Fin ..
        refine finI hT (by rfl) ?_
        first | (simp_all [opndF, regF, tgtF]; done) | (simp_all [opndF, atomF, objF, regF, tgtF]; done) | (simp_all [opndF, atomF, objF, parF, bor, band, regF, tgtF]; done)
       ·have hv : 0 ≤ n ∧ n < p.vars.length := by
          have e : withinB n p.vars.length = true := by simpa using h17
          simpa [withinB] using e
        refine sk (sq (rgs [] rfl ?_ ?_))
        ·simp [holdsC, under]; omega
        refine cd rfl (fun h19 => ?_) (fun h19 => ?_)
        ·refine sq (rg [] rfl ?_)
         refine WP.ret ?_
         change Fin ..
         refine finI hT (by rfl) ?_
         first | (simp_all [opndF, regF, tgtF]; done) | (simp_all [opndF, atomF, objF, regF, tgtF]; done) | (simp_all [opndF, atomF, objF, parF, bor, band, regF, tgtF]; done)
        ·refine sk (sq (rg [] rfl ?_))
         refine WP.ret ?_
         change Fin ..
         refine finI hT (by rfl) ?_
         first | (simp_all [opndF, regF, tgtF]; done) | (simp_all [opndF, atomF, objF, regF, tgtF]; done) | (simp_all [opndF, atomF, objF, parF, bor, band, regF, tgtF]; done)
      ·refine sq (rg [] rfl ?_)
       refine cd rfl (fun h21 => ?_) (fun h21 => ?_)
       ·refine sq (rgs [CG.pure (.bool (withinB n p.locks))] rfl ?_ ?_)
        ·have hw := rwithin_ac n p.locks
         simp [holdsC, under, CG.pure]
         exact hw
        refine cd rfl (fun h22 => ?_) (fun h22 => ?_)
        ·refine sq (rg [] rfl ?_)
         refine WP.ret ?_
         change Fin ..
         refine finI hT (by rfl) ?_
         first | (simp_all [opndF, regF, tgtF]; done) | (simp_all [opndF, atomF, objF, regF, tgtF]; done) | (simp_all [opndF, atomF, objF, parF, bor, band, regF, tgtF]; done)
        ·refine sk (sq (rg [] rfl ?_))
         refine WP.ret ?_
         change Fin ..
         refine finI hT (by rfl) ?_
         first | (simp_all [opndF, regF, tgtF]; done) | (simp_all [opndF, atomF, objF, regF, tgtF]; done) | (simp_all [opndF, atomF, objF, parF, bor, band, regF, tgtF]; done)
       ·refine sq (rg [] rfl ?_)
        refine cd rfl (fun h24 => ?_) (fun h24 => ?_)
        ·refine sq (rgs [CG.pure (.bool (withinB n p.chans.length))] rfl ?_ ?_)
         ·have hw := rwithin_ac n p.chans.length
          simp [holdsC, under, CG.pure]
          exact hw
         refine cd rfl (fun h25 => ?_) (fun h25 => ?_)
         ·refine sq (rg [] rfl ?_)
          refine WP.ret ?_
          change Fin ..
          refine finI hT (by rfl) ?_
          first | (simp_all [opndF, regF, tgtF]; done) | (simp_all [opndF, atomF, objF, regF, tgtF]; done) | (simp_all [opndF, atomF, objF, parF, bor, band, regF, tgtF]; done)
         ·refine sk (sq (rg [] rfl ?_))
          refine WP.ret ?_
          change Fin ..
          refine finI hT (by rfl) ?_
          first | (simp_all [opndF, regF, tgtF]; done) | (simp_all [opndF, atomF, objF, regF, tgtF]; done) | (simp_all [opndF, atomF, objF, parF, bor, band, regF, tgtF]; done)
        ·refine sq (rg [] rfl ?_)
         refine cd rfl (fun h27 => ?_) (fun h27 => ?_)
         ·refine sq (rgs [CG.pure (.bool (withinB n f.sels.length))] rfl ?_ ?_)
          ·have hw := rwithin_ac n f.sels.length
           simp [holdsC, under, CG.pure]
           exact hw
          refine cd rfl (fun h28 => ?_) (fun h28 => ?_)
          ·refine sq (rg [] rfl ?_)
           refine WP.ret ?_
           change Fin ..
           refine finI hT (by rfl) ?_
           first | (simp_all [opndF, regF, tgtF]; done) | (simp_all [opndF, atomF, objF, regF, tgtF]; done) | (simp_all [opndF, atomF, objF, parF, bor, band, regF, tgtF]; done)
          ·refine sk (sq (rg [] rfl ?_))
           refine WP.ret ?_
           change Fin ..
           refine finI hT (by rfl) ?_
           first | (simp_all [opndF, regF, tgtF]; done) | (simp_all [opndF, atomF, objF, regF, tgtF]; done) | (simp_all [opndF, atomF, objF, parF, bor, band, regF, tgtF]; done)
         ·refine sq (rg [] rfl ?_)
          refine cd rfl (fun h30 => ?_) (fun h30 => ?_)
          ·refine sq (rgs [CG.pure (.bool (withinB n p.funcs.length))] rfl ?_ ?_)
           ·have hw := rwithin_ac n p.funcs.length
            simp [holdsC, under, CG.pure]
            exact hw
           refine cd rfl (fun h31 => ?_) (fun h31 => ?_)
           ·refine sq (rg [] rfl ?_)
            refine WP.ret ?_
            change Fin ..
            refine finI hT (by rfl) ?_
            first | (simp_all [opndF, regF, tgtF]; done) | (simp_all [opndF, atomF, objF, regF, tgtF]; done) | (simp_all [opndF, atomF, objF, parF, bor, band, regF, tgtF]; done)
           ·refine sk (sq (rg [] rfl ?_))
            refine WP.ret ?_
            change Fin ..
            refine finI hT (by rfl) ?_
            first | (simp_all [opndF, regF, tgtF]; done) | (simp_all [opndF, atomF, objF, regF, tgtF]; done) | (simp_all [opndF, atomF, objF, parF, bor, band, regF, tgtF]; done)
          ·refine sq (rg [] rfl ?_)
           refine cd rfl (fun h33 => ?_) (fun h33 => ?_)
           ·refine sq (rgs [CG.pure (.bool (withinB n f.code.length))] rfl ?_ ?_)
            ·have hw := rwithin_ac n f.code.length
             simp [holdsC, under, CG.pure]
             exact hw
            refine cd rfl (fun h34 => ?_) (fun h34 => ?_)
            ·refine sq (rg [] rfl ?_)
             refine WP.ret ?_
             change Fin ..
             refine finI hT (by rfl) ?_
             first | (simp_all [opndF, regF, tgtF]; done) | (simp_all [opndF, atomF, objF, regF, tgtF]; done) | (simp_all [opndF, atomF, objF, parF, bor, band, regF, tgtF]; done)
            ·refine sk (sq (rg [] rfl ?_))
             refine WP.ret ?_
             change Fin ..
             refine finI hT (by rfl) ?_
             first | (simp_all [opndF, regF, tgtF]; done) | (simp_all [opndF, atomF, objF, regF, tgtF]; done) | (simp_all [opndF, atomF, objF, parF, bor, band, regF, tgtF]; done)
           ·refine sk (sq (rg [] rfl ?_))
            refine WP.ret ?_
            change Fin ..
            refine finI hT (by rfl) ?_
            first | (simp_all [opndF, regF, tgtF]; done) | (simp_all [opndF, atomF, objF, regF, tgtF]; done) | (simp_all [opndF, atomF, objF, parF, bor, band, regF, tgtF]; done)
end Go.Ab


/- What operands an operation has; what is wrong with an instruction. -/
set_option autoImplicit false
set_option maxRecDepth 20000
set_option maxHeartbeats 4000000
set_option linter.unusedSimpArgs false
set_option linter.unusedVariables false
namespace Go.Ab
open Go.Proofs
theorem finS {P : Program} {T : Nat → TI} {N nt : Nat} (hT : TOK P T N) {t : Nat → Option (D × AV)} {m : Id → Option Ob} {k : Nat} {b r : ByteArray} (h : t k = some (.always, .v (.string b))) (e : b = r) : Fin T N nt 0 [.tmp k] (.v (.string r)) [] ⟨t, m⟩ := by
  subst e
  refine ⟨[(k, .v (.string b))], Ent.mk hT [] trivial ⟨⟨rfl, _, h, conv_eq rfl⟩, trivial⟩ trivial rfl, ([.v (.string b)], none), ?_, trivial, rfl⟩
  simp [resL, mkSt, lookN, notTup]
/-- The letters of an operation's operands. -/
def formL (op : Int) : List UInt8 :=
  if 1 ≤ op ∧ op ≤ 15 then [114, 114, 45, 45] else if 16 ≤ op ∧ op ≤ 36 then [114, 114, 114, 45] else
  if op = 40 ∨ op = 44 ∨ op = 65 then [114, 45, 45, 110] else if op = 41 then [114, 114, 45, 45] else if op = 42 then [116, 45, 45, 45] else
  if op = 43 then [114, 116, 45, 45] else if op = 45 ∨ op = 64 then [45, 45, 45, 45] else if op = 50 then [114, 118, 45, 45] else
  if op = 51 then [118, 114, 45, 45] else if op = 52 then [111, 97, 114, 45] else if op = 53 then [114, 97, 114, 119] else
  if op = 54 then [97, 114, 45, 45] else if op = 55 ∨ op = 56 then [108, 45, 45, 45] else if op = 57 then [114, 108, 45, 45] else
  if op = 58 then [99, 114, 45, 45] else if op = 59 then [111, 99, 111, 45] else if op = 60 then [99, 45, 45, 45] else
  if op = 61 then [115, 45, 45, 45] else if op = 62 then [111, 102, 112, 45] else if op = 63 then [114, 45, 45, 45] else []
def formB (op : Int) : ByteArray := ⟨(formL op).toArray⟩
theorem formB_eq {op : Int} {l : List UInt8} (h : formL op = l) : (⟨l.toArray⟩ : ByteArray) = formB op := by rw [formB, h]
theorem form_ac (op : Int) : AC Tryz.prog T tysN 173 [.int op] [] (.v (.string (formB op))) [] := by
 refine AC_intro hT Tryz.func173 rfl rfl (Nat.le_of_ble_eq_true rfl) ?_
 refine sq (rg [] rfl ?_)
 refine sq (bk (sq (rg [] rfl ?_)))
 refine cd rfl (fun h1 => ?_) (fun h1 => ?_)
 ·refine sq (rg [] rfl ?_)
  refine WP.ret ?_
  change Fin ..
  refine finS hT (by rfl) (formB_eq ?_)
  simp only [band, Bool.and_eq_true, Bool.and_eq_false_iff, decide_eq_true_eq, decide_eq_false_iff_not, beq_iff_eq, beq_eq_false_iff_ne] at *
  unfold formL
  all_goals (repeat (first | rfl | (rw [if_neg (by omega)]) | (rw [if_pos (by omega)])))
 ·refine sq (rg [] rfl ?_)
  refine cd rfl (fun h3 => ?_) (fun h3 => ?_)
  ·refine sq (rg [] rfl ?_)
   refine WP.ret ?_
   change Fin ..
   refine finS hT (by rfl) (formB_eq ?_)
   simp only [band, Bool.and_eq_true, Bool.and_eq_false_iff, decide_eq_true_eq, decide_eq_false_iff_not, beq_iff_eq, beq_eq_false_iff_ne] at *
   unfold formL
   all_goals (repeat (first | rfl | (rw [if_neg (by omega)]) | (rw [if_pos (by omega)])))
  ·refine sk (sq (sq (rg [] rfl ?_)))
   refine bk (sq (sq (rg [] rfl ?_)))
   refine cd rfl (fun h6 => ?_) (fun h6 => ?_)
   ·refine sk ?_
    refine cd rfl (fun h6 => ?_) (fun h6 => ?_)
    ·refine sq (rg [] rfl ?_)
     refine WP.ret ?_
     change Fin ..
     refine finS hT (by rfl) (formB_eq ?_)
     simp only [band, Bool.and_eq_true, Bool.and_eq_false_iff, decide_eq_true_eq, decide_eq_false_iff_not, beq_iff_eq, beq_eq_false_iff_ne] at *
     unfold formL
     all_goals (repeat (first | rfl | (rw [if_neg (by omega)]) | (rw [if_pos (by omega)])))
    ·simp_all
   ·refine sq (rg [] rfl ?_)
    refine cd rfl (fun h7 => ?_) (fun h7 => ?_)
    ·refine sk ?_
     refine cd rfl (fun h7 => ?_) (fun h7 => ?_)
     ·refine sq (rg [] rfl ?_)
      refine WP.ret ?_
      change Fin ..
      refine finS hT (by rfl) (formB_eq ?_)
      simp only [band, Bool.and_eq_true, Bool.and_eq_false_iff, decide_eq_true_eq, decide_eq_false_iff_not, beq_iff_eq, beq_eq_false_iff_ne] at *
      unfold formL
      all_goals (repeat (first | rfl | (rw [if_neg (by omega)]) | (rw [if_pos (by omega)])))
     ·simp_all
    ·refine rg [] rfl ?_
     refine cd rfl (fun h8 => ?_) (fun h8 => ?_)
     ·refine sq (rg [] rfl ?_)
      refine WP.ret ?_
      change Fin ..
      refine finS hT (by rfl) (formB_eq ?_)
      simp only [band, Bool.and_eq_true, Bool.and_eq_false_iff, decide_eq_true_eq, decide_eq_false_iff_not, beq_iff_eq, beq_eq_false_iff_ne] at *
      unfold formL
      all_goals (repeat (first | rfl | (rw [if_neg (by omega)]) | (rw [if_pos (by omega)])))
     ·refine sq (rg [] rfl ?_)
      refine cd rfl (fun h10 => ?_) (fun h10 => ?_)
      ·refine sq (rg [] rfl ?_)
       refine WP.ret ?_
       change Fin ..
       refine finS hT (by rfl) (formB_eq ?_)
       simp only [band, Bool.and_eq_true, Bool.and_eq_false_iff, decide_eq_true_eq, decide_eq_false_iff_not, beq_iff_eq, beq_eq_false_iff_ne] at *
       unfold formL
       all_goals (repeat (first | rfl | (rw [if_neg (by omega)]) | (rw [if_pos (by omega)])))
      ·refine sq (rg [] rfl ?_)
       refine cd rfl (fun h12 => ?_) (fun h12 => ?_)
       ·refine sq (rg [] rfl ?_)
        refine WP.ret ?_
        change Fin ..
        refine finS hT (by rfl) (formB_eq ?_)
        simp only [band, Bool.and_eq_true, Bool.and_eq_false_iff, decide_eq_true_eq, decide_eq_false_iff_not, beq_iff_eq, beq_eq_false_iff_ne] at *
        unfold formL
        all_goals (repeat (first | rfl | (rw [if_neg (by omega)]) | (rw [if_pos (by omega)])))
       ·refine sq (rg [] rfl ?_)
        refine cd rfl (fun h14 => ?_) (fun h14 => ?_)
        ·refine sq (rg [] rfl ?_)
         refine WP.ret ?_
         change Fin ..
         refine finS hT (by rfl) (formB_eq ?_)
         simp only [band, Bool.and_eq_true, Bool.and_eq_false_iff, decide_eq_true_eq, decide_eq_false_iff_not, beq_iff_eq, beq_eq_false_iff_ne] at *
         unfold formL
         all_goals (repeat (first | rfl | (rw [if_neg (by omega)]) | (rw [if_pos (by omega)])))
        ·refine sq (sq (rg [] rfl ?_))
         refine cd rfl (fun h16 => ?_) (fun h16 => ?_)
         ·refine sk ?_
          refine cd rfl (fun h16 => ?_) (fun h16 => ?_)
          ·refine sq (rg [] rfl ?_)
           refine WP.ret ?_
           change Fin ..
           refine finS hT (by rfl) (formB_eq ?_)
           simp only [band, Bool.and_eq_true, Bool.and_eq_false_iff, decide_eq_true_eq, decide_eq_false_iff_not, beq_iff_eq, beq_eq_false_iff_ne] at *
           unfold formL
           all_goals (repeat (first | rfl | (rw [if_neg (by omega)]) | (rw [if_pos (by omega)])))
          ·simp_all
         ·refine rg [] rfl ?_
          refine cd rfl (fun h17 => ?_) (fun h17 => ?_)
          ·refine sq (rg [] rfl ?_)
           refine WP.ret ?_
           change Fin ..
           refine finS hT (by rfl) (formB_eq ?_)
           simp only [band, Bool.and_eq_true, Bool.and_eq_false_iff, decide_eq_true_eq, decide_eq_false_iff_not, beq_iff_eq, beq_eq_false_iff_ne] at *
           unfold formL
           all_goals (repeat (first | rfl | (rw [if_neg (by omega)]) | (rw [if_pos (by omega)])))
          ·refine sq (rg [] rfl ?_)
           refine cd rfl (fun h19 => ?_) (fun h19 => ?_)
           ·refine sq (rg [] rfl ?_)
            refine WP.ret ?_
            change Fin ..
            refine finS hT (by rfl) (formB_eq ?_)
            simp only [band, Bool.and_eq_true, Bool.and_eq_false_iff, decide_eq_true_eq, decide_eq_false_iff_not, beq_iff_eq, beq_eq_false_iff_ne] at *
            unfold formL
            all_goals (repeat (first | rfl | (rw [if_neg (by omega)]) | (rw [if_pos (by omega)])))
           ·refine sq (rg [] rfl ?_)
            refine cd rfl (fun h21 => ?_) (fun h21 => ?_)
            ·refine sq (rg [] rfl ?_)
             refine WP.ret ?_
             change Fin ..
             refine finS hT (by rfl) (formB_eq ?_)
             simp only [band, Bool.and_eq_true, Bool.and_eq_false_iff, decide_eq_true_eq, decide_eq_false_iff_not, beq_iff_eq, beq_eq_false_iff_ne] at *
             unfold formL
             all_goals (repeat (first | rfl | (rw [if_neg (by omega)]) | (rw [if_pos (by omega)])))
            ·refine sq (rg [] rfl ?_)
             refine cd rfl (fun h23 => ?_) (fun h23 => ?_)
             ·refine sq (rg [] rfl ?_)
              refine WP.ret ?_
              change Fin ..
              refine finS hT (by rfl) (formB_eq ?_)
              simp only [band, Bool.and_eq_true, Bool.and_eq_false_iff, decide_eq_true_eq, decide_eq_false_iff_not, beq_iff_eq, beq_eq_false_iff_ne] at *
              unfold formL
              all_goals (repeat (first | rfl | (rw [if_neg (by omega)]) | (rw [if_pos (by omega)])))
             ·refine sq (rg [] rfl ?_)
              refine cd rfl (fun h25 => ?_) (fun h25 => ?_)
              ·refine sq (rg [] rfl ?_)
               refine WP.ret ?_
               change Fin ..
               refine finS hT (by rfl) (formB_eq ?_)
               simp only [band, Bool.and_eq_true, Bool.and_eq_false_iff, decide_eq_true_eq, decide_eq_false_iff_not, beq_iff_eq, beq_eq_false_iff_ne] at *
               unfold formL
               all_goals (repeat (first | rfl | (rw [if_neg (by omega)]) | (rw [if_pos (by omega)])))
              ·refine sq (rg [] rfl ?_)
               refine cd rfl (fun h27 => ?_) (fun h27 => ?_)
               ·refine sq (rg [] rfl ?_)
                refine WP.ret ?_
                change Fin ..
                refine finS hT (by rfl) (formB_eq ?_)
                simp only [band, Bool.and_eq_true, Bool.and_eq_false_iff, decide_eq_true_eq, decide_eq_false_iff_not, beq_iff_eq, beq_eq_false_iff_ne] at *
                unfold formL
                all_goals (repeat (first | rfl | (rw [if_neg (by omega)]) | (rw [if_pos (by omega)])))
               ·refine sq (sq (rg [] rfl ?_))
                refine cd rfl (fun h29 => ?_) (fun h29 => ?_)
                ·refine sk ?_
                 refine cd rfl (fun h29 => ?_) (fun h29 => ?_)
                 ·refine sq (rg [] rfl ?_)
                  refine WP.ret ?_
                  change Fin ..
                  refine finS hT (by rfl) (formB_eq ?_)
                  simp only [band, Bool.and_eq_true, Bool.and_eq_false_iff, decide_eq_true_eq, decide_eq_false_iff_not, beq_iff_eq, beq_eq_false_iff_ne] at *
                  unfold formL
                  all_goals (repeat (first | rfl | (rw [if_neg (by omega)]) | (rw [if_pos (by omega)])))
                 ·simp_all
                ·refine rg [] rfl ?_
                 refine cd rfl (fun h30 => ?_) (fun h30 => ?_)
                 ·refine sq (rg [] rfl ?_)
                  refine WP.ret ?_
                  change Fin ..
                  refine finS hT (by rfl) (formB_eq ?_)
                  simp only [band, Bool.and_eq_true, Bool.and_eq_false_iff, decide_eq_true_eq, decide_eq_false_iff_not, beq_iff_eq, beq_eq_false_iff_ne] at *
                  unfold formL
                  all_goals (repeat (first | rfl | (rw [if_neg (by omega)]) | (rw [if_pos (by omega)])))
                 ·refine sq (rg [] rfl ?_)
                  refine cd rfl (fun h32 => ?_) (fun h32 => ?_)
                  ·refine sq (rg [] rfl ?_)
                   refine WP.ret ?_
                   change Fin ..
                   refine finS hT (by rfl) (formB_eq ?_)
                   simp only [band, Bool.and_eq_true, Bool.and_eq_false_iff, decide_eq_true_eq, decide_eq_false_iff_not, beq_iff_eq, beq_eq_false_iff_ne] at *
                   unfold formL
                   all_goals (repeat (first | rfl | (rw [if_neg (by omega)]) | (rw [if_pos (by omega)])))
                  ·refine sq (rg [] rfl ?_)
                   refine cd rfl (fun h34 => ?_) (fun h34 => ?_)
                   ·refine sq (rg [] rfl ?_)
                    refine WP.ret ?_
                    change Fin ..
                    refine finS hT (by rfl) (formB_eq ?_)
                    simp only [band, Bool.and_eq_true, Bool.and_eq_false_iff, decide_eq_true_eq, decide_eq_false_iff_not, beq_iff_eq, beq_eq_false_iff_ne] at *
                    unfold formL
                    all_goals (repeat (first | rfl | (rw [if_neg (by omega)]) | (rw [if_pos (by omega)])))
                   ·refine sq (rg [] rfl ?_)
                    refine cd rfl (fun h36 => ?_) (fun h36 => ?_)
                    ·refine sq (rg [] rfl ?_)
                     refine WP.ret ?_
                     change Fin ..
                     refine finS hT (by rfl) (formB_eq ?_)
                     simp only [band, Bool.and_eq_true, Bool.and_eq_false_iff, decide_eq_true_eq, decide_eq_false_iff_not, beq_iff_eq, beq_eq_false_iff_ne] at *
                     unfold formL
                     all_goals (repeat (first | rfl | (rw [if_neg (by omega)]) | (rw [if_pos (by omega)])))
                    ·refine sq (rg [] rfl ?_)
                     refine cd rfl (fun h38 => ?_) (fun h38 => ?_)
                     ·refine sq (rg [] rfl ?_)
                      refine WP.ret ?_
                      change Fin ..
                      refine finS hT (by rfl) (formB_eq ?_)
                      simp only [band, Bool.and_eq_true, Bool.and_eq_false_iff, decide_eq_true_eq, decide_eq_false_iff_not, beq_iff_eq, beq_eq_false_iff_ne] at *
                      unfold formL
                      all_goals (repeat (first | rfl | (rw [if_neg (by omega)]) | (rw [if_pos (by omega)])))
                     ·refine sq (rg [] rfl ?_)
                      refine cd rfl (fun h40 => ?_) (fun h40 => ?_)
                      ·refine sq (rg [] rfl ?_)
                       refine WP.ret ?_
                       change Fin ..
                       refine finS hT (by rfl) (formB_eq ?_)
                       simp only [band, Bool.and_eq_true, Bool.and_eq_false_iff, decide_eq_true_eq, decide_eq_false_iff_not, beq_iff_eq, beq_eq_false_iff_ne] at *
                       unfold formL
                       all_goals (repeat (first | rfl | (rw [if_neg (by omega)]) | (rw [if_pos (by omega)])))
                      ·refine sq (rg [] rfl ?_)
                       refine cd rfl (fun h42 => ?_) (fun h42 => ?_)
                       ·refine sq (rg [] rfl ?_)
                        refine WP.ret ?_
                        change Fin ..
                        refine finS hT (by rfl) (formB_eq ?_)
                        simp only [band, Bool.and_eq_true, Bool.and_eq_false_iff, decide_eq_true_eq, decide_eq_false_iff_not, beq_iff_eq, beq_eq_false_iff_ne] at *
                        unfold formL
                        all_goals (repeat (first | rfl | (rw [if_neg (by omega)]) | (rw [if_pos (by omega)])))
                       ·refine sq (rg [] rfl ?_)
                        refine cd rfl (fun h44 => ?_) (fun h44 => ?_)
                        ·refine sq (rg [] rfl ?_)
                         refine WP.ret ?_
                         change Fin ..
                         refine finS hT (by rfl) (formB_eq ?_)
                         simp only [band, Bool.and_eq_true, Bool.and_eq_false_iff, decide_eq_true_eq, decide_eq_false_iff_not, beq_iff_eq, beq_eq_false_iff_ne] at *
                         unfold formL
                         all_goals (repeat (first | rfl | (rw [if_neg (by omega)]) | (rw [if_pos (by omega)])))
                        ·refine sk (sq (rg [] rfl ?_))
                         refine WP.ret ?_
                         change Fin ..
                         refine finS hT (by rfl) (formB_eq ?_)
                         simp only [band, Bool.and_eq_true, Bool.and_eq_false_iff, decide_eq_true_eq, decide_eq_false_iff_not, beq_iff_eq, beq_eq_false_iff_ne] at *
                         unfold formL
                         all_goals (repeat (first | rfl | (rw [if_neg (by omega)]) | (rw [if_pos (by omega)])))
theorem rform_ac (op : Int) : AC Tryz.prog T tysN 161 [.int op] [] (.v (.string (formB op))) [] := by
 refine AC_intro hT Tryz.func161 rfl rfl (Nat.le_of_ble_eq_true rfl) ?_
 refine sq (rg [] rfl ?_)
 refine sq (sq (rg [] rfl ?_))
 refine cd rfl (fun h1 => ?_) (fun h1 => ?_)
 ·refine sq (rg [] rfl ?_)
  refine WP.ret ?_
  change Fin ..
  refine finS hT (by rfl) (formB_eq ?_)
  simp only [band, Bool.and_eq_true, Bool.and_eq_false_iff, decide_eq_true_eq, decide_eq_false_iff_not, beq_iff_eq, beq_eq_false_iff_ne] at *
  unfold formL
  all_goals (repeat (first | rfl | (rw [if_neg (by omega)]) | (rw [if_pos (by omega)])))
 ·refine sk (sq (sq (rg [] rfl ?_)))
  refine cd rfl (fun h3 => ?_) (fun h3 => ?_)
  ·refine sq (rg [] rfl ?_)
   refine WP.ret ?_
   change Fin ..
   refine finS hT (by rfl) (formB_eq ?_)
   simp only [band, Bool.and_eq_true, Bool.and_eq_false_iff, decide_eq_true_eq, decide_eq_false_iff_not, beq_iff_eq, beq_eq_false_iff_ne] at *
   unfold formL
   all_goals (repeat (first | rfl | (rw [if_neg (by omega)]) | (rw [if_pos (by omega)])))
  ·refine sk (sq (sq (rg [] rfl ?_)))
   refine bk (sq (rg [] rfl ?_))
   refine cd rfl (fun h6 => ?_) (fun h6 => ?_)
   ·refine sq (rg [] rfl ?_)
    refine WP.ret ?_
    change Fin ..
    refine finS hT (by rfl) (formB_eq ?_)
    simp only [band, Bool.and_eq_true, Bool.and_eq_false_iff, decide_eq_true_eq, decide_eq_false_iff_not, beq_iff_eq, beq_eq_false_iff_ne] at *
    unfold formL
    all_goals (repeat (first | rfl | (rw [if_neg (by omega)]) | (rw [if_pos (by omega)])))
   ·refine sq (rg [] rfl ?_)
    refine cd rfl (fun h8 => ?_) (fun h8 => ?_)
    ·refine sq (rg [] rfl ?_)
     refine WP.ret ?_
     change Fin ..
     refine finS hT (by rfl) (formB_eq ?_)
     simp only [band, Bool.and_eq_true, Bool.and_eq_false_iff, decide_eq_true_eq, decide_eq_false_iff_not, beq_iff_eq, beq_eq_false_iff_ne] at *
     unfold formL
     all_goals (repeat (first | rfl | (rw [if_neg (by omega)]) | (rw [if_pos (by omega)])))
    ·refine sq (rg [] rfl ?_)
     refine cd rfl (fun h10 => ?_) (fun h10 => ?_)
     ·refine sq (rg [] rfl ?_)
      refine WP.ret ?_
      change Fin ..
      refine finS hT (by rfl) (formB_eq ?_)
      simp only [band, Bool.and_eq_true, Bool.and_eq_false_iff, decide_eq_true_eq, decide_eq_false_iff_not, beq_iff_eq, beq_eq_false_iff_ne] at *
      unfold formL
      all_goals (repeat (first | rfl | (rw [if_neg (by omega)]) | (rw [if_pos (by omega)])))
     ·refine sq (rg [] rfl ?_)
      refine cd rfl (fun h12 => ?_) (fun h12 => ?_)
      ·refine sq (rg [] rfl ?_)
       refine WP.ret ?_
       change Fin ..
       refine finS hT (by rfl) (formB_eq ?_)
       simp only [band, Bool.and_eq_true, Bool.and_eq_false_iff, decide_eq_true_eq, decide_eq_false_iff_not, beq_iff_eq, beq_eq_false_iff_ne] at *
       unfold formL
       all_goals (repeat (first | rfl | (rw [if_neg (by omega)]) | (rw [if_pos (by omega)])))
      ·refine sq (rg [] rfl ?_)
       refine cd rfl (fun h14 => ?_) (fun h14 => ?_)
       ·refine sq (rg [] rfl ?_)
        refine WP.ret ?_
        change Fin ..
        refine finS hT (by rfl) (formB_eq ?_)
        simp only [band, Bool.and_eq_true, Bool.and_eq_false_iff, decide_eq_true_eq, decide_eq_false_iff_not, beq_iff_eq, beq_eq_false_iff_ne] at *
        unfold formL
        all_goals (repeat (first | rfl | (rw [if_neg (by omega)]) | (rw [if_pos (by omega)])))
       ·refine sq (rg [] rfl ?_)
        refine cd rfl (fun h16 => ?_) (fun h16 => ?_)
        ·refine sq (rg [] rfl ?_)
         refine WP.ret ?_
         change Fin ..
         refine finS hT (by rfl) (formB_eq ?_)
         simp only [band, Bool.and_eq_true, Bool.and_eq_false_iff, decide_eq_true_eq, decide_eq_false_iff_not, beq_iff_eq, beq_eq_false_iff_ne] at *
         unfold formL
         all_goals (repeat (first | rfl | (rw [if_neg (by omega)]) | (rw [if_pos (by omega)])))
        ·refine sq (rg [] rfl ?_)
         refine cd rfl (fun h18 => ?_) (fun h18 => ?_)
         ·refine sq (rg [] rfl ?_)
          refine WP.ret ?_
          change Fin ..
          refine finS hT (by rfl) (formB_eq ?_)
          simp only [band, Bool.and_eq_true, Bool.and_eq_false_iff, decide_eq_true_eq, decide_eq_false_iff_not, beq_iff_eq, beq_eq_false_iff_ne] at *
          unfold formL
          all_goals (repeat (first | rfl | (rw [if_neg (by omega)]) | (rw [if_pos (by omega)])))
         ·refine sq (rg [] rfl ?_)
          refine cd rfl (fun h20 => ?_) (fun h20 => ?_)
          ·refine sq (rg [] rfl ?_)
           refine WP.ret ?_
           change Fin ..
           refine finS hT (by rfl) (formB_eq ?_)
           simp only [band, Bool.and_eq_true, Bool.and_eq_false_iff, decide_eq_true_eq, decide_eq_false_iff_not, beq_iff_eq, beq_eq_false_iff_ne] at *
           unfold formL
           all_goals (repeat (first | rfl | (rw [if_neg (by omega)]) | (rw [if_pos (by omega)])))
          ·refine sq (rg [] rfl ?_)
           refine cd rfl (fun h22 => ?_) (fun h22 => ?_)
           ·refine sq (rg [] rfl ?_)
            refine WP.ret ?_
            change Fin ..
            refine finS hT (by rfl) (formB_eq ?_)
            simp only [band, Bool.and_eq_true, Bool.and_eq_false_iff, decide_eq_true_eq, decide_eq_false_iff_not, beq_iff_eq, beq_eq_false_iff_ne] at *
            unfold formL
            all_goals (repeat (first | rfl | (rw [if_neg (by omega)]) | (rw [if_pos (by omega)])))
           ·refine sq (rg [] rfl ?_)
            refine cd rfl (fun h24 => ?_) (fun h24 => ?_)
            ·refine sq (rg [] rfl ?_)
             refine WP.ret ?_
             change Fin ..
             refine finS hT (by rfl) (formB_eq ?_)
             simp only [band, Bool.and_eq_true, Bool.and_eq_false_iff, decide_eq_true_eq, decide_eq_false_iff_not, beq_iff_eq, beq_eq_false_iff_ne] at *
             unfold formL
             all_goals (repeat (first | rfl | (rw [if_neg (by omega)]) | (rw [if_pos (by omega)])))
            ·refine sq (rg [] rfl ?_)
             refine cd rfl (fun h26 => ?_) (fun h26 => ?_)
             ·refine sq (rg [] rfl ?_)
              refine WP.ret ?_
              change Fin ..
              refine finS hT (by rfl) (formB_eq ?_)
              simp only [band, Bool.and_eq_true, Bool.and_eq_false_iff, decide_eq_true_eq, decide_eq_false_iff_not, beq_iff_eq, beq_eq_false_iff_ne] at *
              unfold formL
              all_goals (repeat (first | rfl | (rw [if_neg (by omega)]) | (rw [if_pos (by omega)])))
             ·refine sq (sq (rg [] rfl ?_))
              refine cd rfl (fun h28 => ?_) (fun h28 => ?_)
              ·refine sk ?_
               refine cd rfl (fun h28 => ?_) (fun h28 => ?_)
               ·refine sq (rg [] rfl ?_)
                refine WP.ret ?_
                change Fin ..
                refine finS hT (by rfl) (formB_eq ?_)
                simp only [band, Bool.and_eq_true, Bool.and_eq_false_iff, decide_eq_true_eq, decide_eq_false_iff_not, beq_iff_eq, beq_eq_false_iff_ne] at *
                unfold formL
                all_goals (repeat (first | rfl | (rw [if_neg (by omega)]) | (rw [if_pos (by omega)])))
               ·simp_all
              ·refine rg [] rfl ?_
               refine cd rfl (fun h29 => ?_) (fun h29 => ?_)
               ·refine sq (rg [] rfl ?_)
                refine WP.ret ?_
                change Fin ..
                refine finS hT (by rfl) (formB_eq ?_)
                simp only [band, Bool.and_eq_true, Bool.and_eq_false_iff, decide_eq_true_eq, decide_eq_false_iff_not, beq_iff_eq, beq_eq_false_iff_ne] at *
                unfold formL
                all_goals (repeat (first | rfl | (rw [if_neg (by omega)]) | (rw [if_pos (by omega)])))
               ·refine sq (rg [] rfl ?_)
                refine cd rfl (fun h31 => ?_) (fun h31 => ?_)
                ·refine sq (rg [] rfl ?_)
                 refine WP.ret ?_
                 change Fin ..
                 refine finS hT (by rfl) (formB_eq ?_)
                 simp only [band, Bool.and_eq_true, Bool.and_eq_false_iff, decide_eq_true_eq, decide_eq_false_iff_not, beq_iff_eq, beq_eq_false_iff_ne] at *
                 unfold formL
                 all_goals (repeat (first | rfl | (rw [if_neg (by omega)]) | (rw [if_pos (by omega)])))
                ·refine sq (rg [] rfl ?_)
                 refine cd rfl (fun h33 => ?_) (fun h33 => ?_)
                 ·refine sq (rg [] rfl ?_)
                  refine WP.ret ?_
                  change Fin ..
                  refine finS hT (by rfl) (formB_eq ?_)
                  simp only [band, Bool.and_eq_true, Bool.and_eq_false_iff, decide_eq_true_eq, decide_eq_false_iff_not, beq_iff_eq, beq_eq_false_iff_ne] at *
                  unfold formL
                  all_goals (repeat (first | rfl | (rw [if_neg (by omega)]) | (rw [if_pos (by omega)])))
                 ·refine sq (rg [] rfl ?_)
                  refine cd rfl (fun h35 => ?_) (fun h35 => ?_)
                  ·refine sq (rg [] rfl ?_)
                   refine WP.ret ?_
                   change Fin ..
                   refine finS hT (by rfl) (formB_eq ?_)
                   simp only [band, Bool.and_eq_true, Bool.and_eq_false_iff, decide_eq_true_eq, decide_eq_false_iff_not, beq_iff_eq, beq_eq_false_iff_ne] at *
                   unfold formL
                   all_goals (repeat (first | rfl | (rw [if_neg (by omega)]) | (rw [if_pos (by omega)])))
                  ·refine sq (rg [] rfl ?_)
                   refine cd rfl (fun h37 => ?_) (fun h37 => ?_)
                   ·refine sq (rg [] rfl ?_)
                    refine WP.ret ?_
                    change Fin ..
                    refine finS hT (by rfl) (formB_eq ?_)
                    simp only [band, Bool.and_eq_true, Bool.and_eq_false_iff, decide_eq_true_eq, decide_eq_false_iff_not, beq_iff_eq, beq_eq_false_iff_ne] at *
                    unfold formL
                    all_goals (repeat (first | rfl | (rw [if_neg (by omega)]) | (rw [if_pos (by omega)])))
                   ·refine sq (rg [] rfl ?_)
                    refine cd rfl (fun h39 => ?_) (fun h39 => ?_)
                    ·refine sq (rg [] rfl ?_)
                     refine WP.ret ?_
                     change Fin ..
                     refine finS hT (by rfl) (formB_eq ?_)
                     simp only [band, Bool.and_eq_true, Bool.and_eq_false_iff, decide_eq_true_eq, decide_eq_false_iff_not, beq_iff_eq, beq_eq_false_iff_ne] at *
                     unfold formL
                     all_goals (repeat (first | rfl | (rw [if_neg (by omega)]) | (rw [if_pos (by omega)])))
                    ·refine sq (rg [] rfl ?_)
                     refine cd rfl (fun h41 => ?_) (fun h41 => ?_)
                     ·refine sq (rg [] rfl ?_)
                      refine WP.ret ?_
                      change Fin ..
                      refine finS hT (by rfl) (formB_eq ?_)
                      simp only [band, Bool.and_eq_true, Bool.and_eq_false_iff, decide_eq_true_eq, decide_eq_false_iff_not, beq_iff_eq, beq_eq_false_iff_ne] at *
                      unfold formL
                      all_goals (repeat (first | rfl | (rw [if_neg (by omega)]) | (rw [if_pos (by omega)])))
                     ·refine sq (rg [] rfl ?_)
                      refine cd rfl (fun h43 => ?_) (fun h43 => ?_)
                      ·refine sq (rg [] rfl ?_)
                       refine WP.ret ?_
                       change Fin ..
                       refine finS hT (by rfl) (formB_eq ?_)
                       simp only [band, Bool.and_eq_true, Bool.and_eq_false_iff, decide_eq_true_eq, decide_eq_false_iff_not, beq_iff_eq, beq_eq_false_iff_ne] at *
                       unfold formL
                       all_goals (repeat (first | rfl | (rw [if_neg (by omega)]) | (rw [if_pos (by omega)])))
                      ·refine sq (rg [] rfl ?_)
                       refine cd rfl (fun h45 => ?_) (fun h45 => ?_)
                       ·refine sq (rg [] rfl ?_)
                        refine WP.ret ?_
                        change Fin ..
                        refine finS hT (by rfl) (formB_eq ?_)
                        simp only [band, Bool.and_eq_true, Bool.and_eq_false_iff, decide_eq_true_eq, decide_eq_false_iff_not, beq_iff_eq, beq_eq_false_iff_ne] at *
                        unfold formL
                        all_goals (repeat (first | rfl | (rw [if_neg (by omega)]) | (rw [if_pos (by omega)])))
                       ·refine sq (rg [] rfl ?_)
                        refine cd rfl (fun h47 => ?_) (fun h47 => ?_)
                        ·refine sq (rg [] rfl ?_)
                         refine WP.ret ?_
                         change Fin ..
                         refine finS hT (by rfl) (formB_eq ?_)
                         simp only [band, Bool.and_eq_true, Bool.and_eq_false_iff, decide_eq_true_eq, decide_eq_false_iff_not, beq_iff_eq, beq_eq_false_iff_ne] at *
                         unfold formL
                         all_goals (repeat (first | rfl | (rw [if_neg (by omega)]) | (rw [if_pos (by omega)])))
                        ·refine sk (sq (rg [] rfl ?_))
                         refine WP.ret ?_
                         change Fin ..
                         refine finS hT (by rfl) (formB_eq ?_)
                         simp only [band, Bool.and_eq_true, Bool.and_eq_false_iff, decide_eq_true_eq, decide_eq_false_iff_not, beq_iff_eq, beq_eq_false_iff_ne] at *
                         unfold formL
                         all_goals (repeat (first | rfl | (rw [if_neg (by omega)]) | (rw [if_pos (by omega)])))
end Go.Ab


/- What is wrong with an instruction. -/
set_option autoImplicit false
set_option maxRecDepth 20000
set_option maxHeartbeats 4000000
set_option linter.unusedSimpArgs false
set_option linter.unusedVariables false
namespace Go.Ab
open Go.Proofs
def locB (op : Int) : Bool := (decide (op ≥ 1) && decide (op ≤ 36)) || (decide (op ≥ 40) && decide (op ≤ 45))
def visB (op : Int) : Bool := decide (op ≥ 50) && decide (op ≤ 65)
theorem rlocal_ac (op : Int) : AC Tryz.prog T tysN 159 [.int op] [] (.bool (locB op)) [] := by
 refine AC_intro hT Tryz.func159 rfl rfl (Nat.le_of_ble_eq_true rfl) ?_
 refine sq (rg [] rfl ?_)
 refine sq (rg [] rfl ?_)
 refine WP.ret ?_
 change Fin ..
 exact fin1 hT (by rfl) (by rw [band, band, bor]; rfl)
theorem rvisible_ac (op : Int) : AC Tryz.prog T tysN 160 [.int op] [] (.bool (visB op)) [] := by
 refine AC_intro hT Tryz.func160 rfl rfl (Nat.le_of_ble_eq_true rfl) ?_
 refine sq (rg [] rfl ?_)
 refine sq (rg [] rfl ?_)
 refine WP.ret ?_
 change Fin ..
 exact fin1 hT (by rfl) (by rw [band]; rfl)
def opL (x : PIns) : List Int := [x.a, x.b, x.c, x.n]
def opA (x : PIns) : AV := arrI 227 4 .i64 (opL x)
theorem form_ind {Q : List UInt8 → Prop} (op : Int) (h0 : 1 ≤ op ∧ op ≤ 15 → Q [114, 114, 45, 45]) (h1 : 16 ≤ op ∧ op ≤ 36 → Q [114, 114, 114, 45]) (h2 : op = 40 ∨ op = 44 ∨ op = 65 → Q [114, 45, 45, 110]) (h3 : op = 41 → Q [114, 114, 45, 45]) (h4 : op = 42 → Q [116, 45, 45, 45]) (h5 : op = 43 → Q [114, 116, 45, 45]) (h6 : op = 45 ∨ op = 64 → Q [45, 45, 45, 45]) (h7 : op = 50 → Q [114, 118, 45, 45]) (h8 : op = 51 → Q [118, 114, 45, 45]) (h9 : op = 52 → Q [111, 97, 114, 45]) (h10 : op = 53 → Q [114, 97, 114, 119]) (h11 : op = 54 → Q [97, 114, 45, 45]) (h12 : op = 55 ∨ op = 56 → Q [108, 45, 45, 45]) (h13 : op = 57 → Q [114, 108, 45, 45]) (h14 : op = 58 → Q [99, 114, 45, 45]) (h15 : op = 59 → Q [111, 99, 111, 45]) (h16 : op = 60 → Q [99, 45, 45, 45]) (h17 : op = 61 → Q [115, 45, 45, 45]) (h18 : op = 62 → Q [111, 102, 112, 45]) (h19 : op = 63 → Q [114, 45, 45, 45]) (hn : ¬ (1 ≤ op ∧ op ≤ 36) ∧ ¬ (40 ≤ op ∧ op ≤ 45) ∧ ¬ (50 ≤ op ∧ op ≤ 65) → Q []) : Q (formL op) := by
  unfold formL
  by_cases c0 : 1 ≤ op ∧ op ≤ 15
  · rw [if_pos c0]; exact h0 c0
  rw [if_neg c0]
  by_cases c1 : 16 ≤ op ∧ op ≤ 36
  · rw [if_pos c1]; exact h1 c1
  rw [if_neg c1]
  by_cases c2 : op = 40 ∨ op = 44 ∨ op = 65
  · rw [if_pos c2]; exact h2 c2
  rw [if_neg c2]
  by_cases c3 : op = 41
  · rw [if_pos c3]; exact h3 c3
  rw [if_neg c3]
  by_cases c4 : op = 42
  · rw [if_pos c4]; exact h4 c4
  rw [if_neg c4]
  by_cases c5 : op = 43
  · rw [if_pos c5]; exact h5 c5
  rw [if_neg c5]
  by_cases c6 : op = 45 ∨ op = 64
  · rw [if_pos c6]; exact h6 c6
  rw [if_neg c6]
  by_cases c7 : op = 50
  · rw [if_pos c7]; exact h7 c7
  rw [if_neg c7]
  by_cases c8 : op = 51
  · rw [if_pos c8]; exact h8 c8
  rw [if_neg c8]
  by_cases c9 : op = 52
  · rw [if_pos c9]; exact h9 c9
  rw [if_neg c9]
  by_cases c10 : op = 53
  · rw [if_pos c10]; exact h10 c10
  rw [if_neg c10]
  by_cases c11 : op = 54
  · rw [if_pos c11]; exact h11 c11
  rw [if_neg c11]
  by_cases c12 : op = 55 ∨ op = 56
  · rw [if_pos c12]; exact h12 c12
  rw [if_neg c12]
  by_cases c13 : op = 57
  · rw [if_pos c13]; exact h13 c13
  rw [if_neg c13]
  by_cases c14 : op = 58
  · rw [if_pos c14]; exact h14 c14
  rw [if_neg c14]
  by_cases c15 : op = 59
  · rw [if_pos c15]; exact h15 c15
  rw [if_neg c15]
  by_cases c16 : op = 60
  · rw [if_pos c16]; exact h16 c16
  rw [if_neg c16]
  by_cases c17 : op = 61
  · rw [if_pos c17]; exact h17 c17
  rw [if_neg c17]
  by_cases c18 : op = 62
  · rw [if_pos c18]; exact h18 c18
  rw [if_neg c18]
  by_cases c19 : op = 63
  · rw [if_pos c19]; exact h19 c19
  rw [if_neg c19]
  exact hn (by omega)
theorem opA_of (x : PIns) : (AV.agg 227 4 fun q => bif Nat.beq q 3 then .int x.n else bif Nat.beq q 2 then .int x.c else bif Nat.beq q 1 then .int x.b else bif Nat.beq q 0 then .int x.a else .int 0) = opA x := agg_ext (fun q => by match q with | 0 | 1 | 2 | 3 | q + 4 => rfl)
theorem form_none (op : Int) : (formL op = []) ↔ locB op = false ∧ visB op = false := by
  have hb : (locB op = false ∧ visB op = false) ↔ ¬ (1 ≤ op ∧ op ≤ 36) ∧ ¬ (40 ≤ op ∧ op ≤ 45) ∧ ¬ (50 ≤ op ∧ op ≤ 65) := by
    unfold locB visB
    simp only [Bool.or_eq_false_iff, Bool.and_eq_false_iff, decide_eq_false_iff_not]
    omega
  rw [hb]
  refine form_ind (Q := fun l => l = [] ↔ _) op ?_ ?_ ?_ ?_ ?_ ?_ ?_ ?_ ?_ ?_ ?_ ?_ ?_ ?_ ?_ ?_ ?_ ?_ ?_ ?_ ?_
  all_goals (intro h; constructor <;> intro k)
  all_goals (first | rfl | exact h | (exfalso; omega) | (exact absurd k (List.cons_ne_nil _ _)))
theorem form_len {op : Int} (h : formL op ≠ []) : (formL op).length = 4 := by
  revert h
  refine form_ind (Q := fun l => l ≠ [] → l.length = 4) op ?_ ?_ ?_ ?_ ?_ ?_ ?_ ?_ ?_ ?_ ?_ ?_ ?_ ?_ ?_ ?_ ?_ ?_ ?_ ?_ ?_
  all_goals (intro _ h; first | rfl | exact absurd rfl h)
/-- The letter of an operand. -/
def letF (op : Int) (k : Nat) : Int := byteAt (formB op) k
theorem let_at (op : Int) (k : Nat) : letF op k = (((formL op)[k]?.getD 0).toNat : Nat) := by
  unfold letF byteAt formB
  congr 2
  by_cases h : k < (formL op).length
  · have h1 : k < (⟨(formL op).toArray⟩ : ByteArray).size := by simpa [ByteArray.size] using h
    rw [getElem?_pos (⟨(formL op).toArray⟩ : ByteArray) k h1, getElem?_pos (formL op) k h]
    rfl
  · have h1 : ¬ k < (⟨(formL op).toArray⟩ : ByteArray).size := by simpa [ByteArray.size] using h
    rw [getElem?_neg (⟨(formL op).toArray⟩ : ByteArray) k h1, getElem?_neg (formL op) k h]
/-- The letter of parameters stands behind the one of a function. -/
theorem let_par {op : Int} {k : Nat} (h : letF op k = 112) : k = 2 ∧ letF op 1 = 102 := by
  rw [let_at] at h ⊢
  revert h
  refine form_ind (Q := fun l => ((l[k]?.getD 0).toNat : Int) = 112 → k = 2 ∧ ((l[1]?.getD 0).toNat : Int) = 102) op ?_ ?_ ?_ ?_ ?_ ?_ ?_ ?_ ?_ ?_ ?_ ?_ ?_ ?_ ?_ ?_ ?_ ?_ ?_ ?_ ?_
  all_goals (intro _ h; match k, h with
    | 0, h | 1, h | 2, h | 3, h => first | exact ⟨rfl, rfl⟩ | (exact absurd h (by decide))
    | k + 4, h => exact absurd h (by simp))
def anyTo (p : Nat → Bool) : Nat → Bool
  | 0 => false
  | i + 1 => anyTo p i || p i
theorem anyTo_bad {p : Nat → Bool} {i : Nat} (h : p i = true) : ∀ {n : Nat}, i < n → anyTo p n = true
  | n + 1, hn => by
    rw [anyTo, Bool.or_eq_true]
    by_cases e : i = n
    · subst e; exact .inr h
    · exact .inl (anyTo_bad h (by omega))
theorem bt_loop (b : ByteArray) : ∀ (n i : Nat) (r : List UInt8), b.size - i = n → (ByteArray.toList.loop b i r).length = r.length + (b.size - i)
  | 0, i, r, h => by
    unfold ByteArray.toList.loop
    rw [if_neg (by omega), List.length_reverse]; omega
  | n + 1, i, r, h => by
    unfold ByteArray.toList.loop
    rw [if_pos (by omega), bt_loop b n (i + 1) _ (by omega), List.length_cons]; omega
theorem bt_len (b : ByteArray) : b.toList.length = b.size := by
  unfold ByteArray.toList
  have := bt_loop b _ 0 [] rfl
  simpa using this
theorem form_eq0 {op : Int} (h : ((formB op).toList == (⟨#[]⟩ : ByteArray).toList) = true) : formL op = [] := by
  have h1 : (formB op).toList = (⟨#[]⟩ : ByteArray).toList := by simpa using h
  have h2 := congrArg List.length h1
  rw [bt_len, bt_len] at h2
  have h3 : (formL op).length = 0 := by simpa [formB, ByteArray.size] using h2
  exact List.eq_nil_of_length_eq_zero h3
theorem form_ne0 {op : Int} (h : ((formB op).toList == (⟨#[]⟩ : ByteArray).toList) = false) : formL op ≠ [] := by
  intro e
  have : formB op = ⟨#[]⟩ := by rw [formB, e]
  rw [this] at h
  simp at h
def unB (x : PIns) (k : Nat) : Bool := letF x.op k == 45 && (opL x).getD k 0 != 0
def errTo (p : PProg) (f : PFun) (x : PIns) : Nat → Int
  | 0 => 0
  | k + 1 => if errTo p f x k ≠ 0 then errTo p f x k else opndF p f (letF x.op k) ((opL x).getD k 0) x
def instrF (p : PProg) (f : PFun) (x : PIns) : Int :=
  if formL x.op = [] then 33 else if anyTo (unB x) 4 then 34 else errTo p f x 4
theorem form_size {op : Int} (h : formL op ≠ []) : (formB op).size = 4 := by
  have := form_len h
  simpa [formB, ByteArray.size] using this
theorem err_first {p : PProg} {f : PFun} {x : PIns} {k : Nat} (h : errTo p f x k = 0) (hb : opndF p f (letF x.op k) ((opL x).getD k 0) x ≠ 0) : ∀ {n : Nat}, k < n → errTo p f x n = opndF p f (letF x.op k) ((opL x).getD k 0) x
  | n + 1, hn => by
    by_cases e : k = n
    · subst e
      rw [errTo, h, if_neg (by simp)]
    · have ih := err_first h hb (n := n) (by omega)
      rw [errTo, ih, if_pos hb]
theorem par_ok {p : PProg} {f : PFun} {x : PIns} {k : Nat} (h : errTo p f x k = 0) (hc : letF x.op k = 112) : 0 ≤ x.b ∧ x.b < p.funcs.length := by
  obtain ⟨rfl, h1⟩ := let_par hc
  have h2 : opndF p f (letF x.op 1) ((opL x).getD 1 0) x = 0 := by
    have e : errTo p f x 2 = if errTo p f x 1 ≠ 0 then errTo p f x 1 else opndF p f (letF x.op 1) ((opL x).getD 1 0) x := rfl
    rw [e] at h
    split at h
    · rename_i hne; exact absurd h hne
    · exact h
  rw [h1] at h2
  exact objF_ok h2
theorem operands_ac (x : PIns) : AC Tryz.prog T tysN 174 [encIns x] [] (opA x) [] := by
 refine AC_intro hT Tryz.func174 rfl rfl (Nat.le_of_ble_eq_true rfl) ?_
 refine sq (rg [] rfl ?_)
 refine sq (rg [] rfl ?_)
 refine WP.ret ?_
 change Fin ..
 refine Fin.ent (Ent.mk (P := Tryz.prog) hT [] (ts := [(2, .ptr (.s 2 0) 1 0 [])]) (ms := [(.s 2 0, .cells ⟨227, 1, fun _ => opA x, 0⟩)]) trivial ⟨⟨rfl, _, rfl, conv_eq rfl⟩, trivial⟩ ⟨⟨fun _ _ => okIds_agg (fun _ _ => rfl), .inl ⟨_, rfl, _, _, rfl, Nat.le_refl _, Nat.zero_le _, Nat.zero_le _, fun q hq => by (obtain rfl : q = 0 := (by simp at hq; exact hq)); exact conv_eq (opA_of x)⟩⟩, trivial⟩ rfl) ?_
 refine fin_mk hT [(.s 2 0, 1)] (ts := [(2, .rp 227 (opA x))]) (l := [opA x]) ⟨⟨_, rfl, Nat.le_refl _⟩, trivial⟩ ⟨⟨rfl, _, rfl, conv_rpe rfl rfl (by simp [lookF, idbeq_self]) rfl rfl noIds_arrI⟩, trivial⟩ trivial rfl rfl rfl
theorem instr_ac (p : PProg) (f : PFun) (x : PIns) : AC Tryz.prog T tysN 134 [.rp 196 (encCk p f), encIns x] [] (.int (instrF p f x)) [] := by
 refine AC_intro hT Tryz.func134 rfl rfl (Nat.le_of_ble_eq_true rfl) ?_
 refine sq (rg [] rfl ?_)
 refine sq (rgs [CG.pure (.v (.string (formB x.op)))] rfl ?_ ?_)
 ·have hf := form_ac x.op
  simp [holdsC, under, CG.pure]
  exact hf
 refine sq (sq (rg [] rfl ?_))
 refine cd rfl (fun h2 => ?_) (fun h2 => ?_)
 ·have hno : formL x.op = [] := form_eq0 h2
  refine sq (rg [] rfl ?_)
  refine WP.ret ?_
  change Fin ..
  exact finI hT (by rfl) (by rw [instrF, if_pos hno])
 ·have hne : formL x.op ≠ [] := form_ne0 h2
  have hsz := form_size hne
  refine sk (sq (rgs [CG.pure (opA x)] rfl ?_ ?_))
  ·have ho := operands_ac x
   simp [holdsC, under, CG.pure]
   exact ho
  refine sq (sq (rg [] rfl ?_))
  refine bk ?_
  refine WP.loop (α := Nat) (fun k => mkSt [(0, .rp 196 (encCk p f)), (3, .rp 162 (encIns x)), (5, .v (.string (formB x.op))), (6, .rp 227 (opA x)), (19, opA x), (20, .int k)] []) (fun k => k ≤ 4 ∧ anyTo (unB x) k = false) (fun k => 4 - k) ?_ ?_
  ·refine ⟨0, ?_, ?_⟩
   ·exact ⟨Nat.zero_le _, rfl⟩
   ·refine em [(.s 3 0, 1), (.s 6 0, 1)] ⟨⟨_, rfl, Nat.le_refl _⟩, ⟨_, rfl, Nat.le_refl _⟩, trivial⟩ ⟨⟨rfl, _, rfl, cvt⟩, ⟨rfl, _, rfl, conv_rpe rfl rfl (by decide) rfl rfl rfl⟩, ⟨rfl, _, rfl, cvt⟩, ⟨rfl, _, rfl, conv_rpe rfl rfl (by decide) rfl rfl rfl⟩, ⟨rfl, _, rfl, cvt⟩, ⟨rfl, _, rfl, cvt⟩, trivial⟩ trivial
  ·rintro k ⟨hk, hn⟩
   refine sq (rg [] rfl ?_)
   refine sq ?_
   refine cd rfl (fun h6 => ?_) (fun h6 => ?_)
   ·have hk4 : k < 4 := by simp at h6; omega
    refine sk (sq (bk (sq (rgs [] rfl ?_ ?_))))
    ·simp [holdsC, under]; omega
    refine sq (rgs [] rfl ?_ ?_)
    ·simp [holdsC, under, hsz]; omega
    refine cd rfl (fun h8 => ?_) (fun h8 => ?_)
    ·have hb : unB x k = true := by
       have e : (bif letF x.op k == 45 then (opL x).getD k 0 != 0 else false) = true := h8
       rwa [band] at e
     refine sq (rg [] rfl ?_)
     refine WP.ret ?_
     change Fin ..
     exact finI hT (by rfl) (by rw [instrF, if_neg hne, anyTo_bad hb hk4, if_pos rfl])
    ·have hb : unB x k = false := by
       have e : (bif letF x.op k == 45 then (opL x).getD k 0 != 0 else false) = false := h8
       rwa [band] at e
     refine sk (rg [] rfl ?_)
     refine ⟨k + 1, ?_, ?_, ?_⟩
     ·exact ⟨hk4, by rw [anyTo, hn, hb]; rfl⟩
     ·refine em [] trivial ⟨⟨rfl, _, rfl, cvt⟩, ⟨rfl, _, rfl, cvt⟩, ⟨rfl, _, rfl, cvt⟩, ⟨rfl, _, rfl, cvt⟩, ⟨rfl, _, rfl, cvt⟩, ⟨rfl, _, rfl, cvt⟩, trivial⟩ trivial
     ·(try simp only []); first | omega | grind
   ·have hk4 : k = 4 := by simp at h6; omega
    subst hk4
    refine xt (sq (sq (rg [] rfl ?_)))
    refine bk ?_
    refine WP.loop (α := Nat) (fun k => mkSt [(0, .rp 196 (encCk p f)), (3, .rp 162 (encIns x)), (5, .v (.string (formB x.op))), (33, opA x), (34, .int k)] []) (fun k => k ≤ 4 ∧ errTo p f x k = 0) (fun k => 4 - k) ?_ ?_
    ·refine ⟨0, ?_, ?_⟩
     ·exact ⟨Nat.zero_le _, rfl⟩
     ·refine em [] trivial ⟨⟨rfl, _, rfl, cvt⟩, ⟨rfl, _, rfl, cvt⟩, ⟨rfl, _, rfl, cvt⟩, ⟨rfl, _, rfl, cvt⟩, ⟨rfl, _, rfl, cvt⟩, trivial⟩ trivial
    ·rintro k ⟨hk, he⟩
     refine sq (rg [] rfl ?_)
     refine sq ?_
     refine cd rfl (fun h12 => ?_) (fun h12 => ?_)
     ·have hk4 : k < 4 := by simp at h12; omega
      refine sk (sq (bk (sq (rgs [] rfl ?_ ?_))))
      ·simp [holdsC, under]; omega
      refine sq (drs [CG.pure (.int (opndF p f (letF x.op k) ((opL x).getD k 0) x))] rfl ?_ ?_)
      ·have ho := operand_ac p f (letF x.op k) ((opL x).getD k 0) x (fun hc => par_ok he hc)
       have hk2 : k < (formB x.op).size := by omega
       refine ⟨⟨by omega, by omega⟩, ?_⟩
       exact ho
      refine sq (rg [] rfl ?_)
      refine cd rfl (fun h15 => ?_) (fun h15 => ?_)
      ·have hb : opndF p f (letF x.op k) ((opL x).getD k 0) x ≠ 0 := by simpa using h15
       refine sq (rg [] rfl ?_)
       refine WP.ret ?_
       change Fin ..
       refine finI hT (by rfl) ?_
       rw [instrF, if_neg hne, hn, if_neg (by simp), err_first he hb hk4]
      ·have hb : opndF p f (letF x.op k) ((opL x).getD k 0) x = 0 := by simpa using h15
       refine sk (rg [] rfl ?_)
       refine ⟨k + 1, ?_, ?_, ?_⟩
       ·exact ⟨hk4, by rw [errTo, he, if_neg (by simp)]; exact hb⟩
       ·refine em [] trivial ⟨⟨rfl, _, rfl, cvt⟩, ⟨rfl, _, rfl, cvt⟩, ⟨rfl, _, rfl, cvt⟩, ⟨rfl, _, rfl, cvt⟩, ⟨rfl, _, rfl, cvt⟩, trivial⟩ trivial
       ·(try simp only []); first | omega | grind
     ·have hk4 : k = 4 := by simp at h12; omega
      subst hk4
      refine xt (sq (rg [] rfl ?_))
      refine WP.ret ?_
      change Fin ..
      exact finI hT (by rfl) (by rw [instrF, if_neg hne, hn]; simp [he])
end Go.Ab


/- The reference: what is wrong with an instruction. -/
set_option autoImplicit false
set_option maxRecDepth 20000
set_option maxHeartbeats 4000000
set_option linter.unusedSimpArgs false
set_option linter.unusedVariables false
namespace Go.Ab
open Go.Proofs
theorem rinstr_ac (p : PProg) (f : PFun) (x : PIns) : AC Tryz.prog T tysN 113 [encProg p, encFun f, encIns x] [] (.int (instrF p f x)) [] := by
 refine AC_intro hT Tryz.func113 rfl rfl (Nat.le_of_ble_eq_true rfl) ?_
 refine sq (rg [] rfl ?_)
 refine sq (sq (rgs [CG.pure (.bool (locB x.op)), CG.pure (.bool (visB x.op))] rfl ?_ ?_))
 ·have h1 := rlocal_ac x.op
  have h2 := rvisible_ac x.op
  simp [holdsC, under, CG.pure]
  exact ⟨h1, fun _ => h2⟩
 refine cd rfl (fun h1 => ?_) (fun h1 => ?_)
 ·have hno : formL x.op = [] := by
    have e : (bif !locB x.op then !visB x.op else false) = true := h1
    rw [band, Bool.and_eq_true, Bool.not_eq_true', Bool.not_eq_true'] at e
    exact (form_none x.op).2 e
  refine sq (rg [] rfl ?_)
  refine WP.ret ?_
  change Fin ..
  exact finI hT (by rfl) (by rw [instrF, if_pos hno])
 ·have hne : formL x.op ≠ [] := by
    have e : (bif !locB x.op then !visB x.op else false) = false := h1
    rw [band] at e
    intro hz
    have := (form_none x.op).1 hz
    rw [this.1, this.2] at e
    cases e
  have hsz := form_size hne
  refine sk (sq (rgs [CG.pure (.v (.string (formB x.op)))] rfl ?_ ?_))
  ·have hf := rform_ac x.op
   simp [holdsC, under, CG.pure]
   exact hf
  refine sq (rg [] rfl ?_)
  refine sq (sq (rg [] rfl ?_))
  refine bk ?_
  refine WP.loop (α := Nat) (fun k => mkSt [(3, .rp 26 (encProg p)), (4, .rp 166 (encFun f)), (5, .rp 162 (encIns x)), (7, .v (.string (formB x.op))), (8, .rp 227 (opA x)), (9, .int k)] []) (fun k => k ≤ 4 ∧ anyTo (unB x) k = false) (fun k => 4 - k) ?_ ?_
  ·refine ⟨0, ?_, ?_⟩
   ·exact ⟨Nat.zero_le _, rfl⟩
   ·refine em [(.s 3 0, 1), (.s 4 0, 1), (.s 5 0, 1), (.s 8 0, 1)] ⟨⟨_, rfl, Nat.le_refl _⟩, ⟨_, rfl, Nat.le_refl _⟩, ⟨_, rfl, Nat.le_refl _⟩, ⟨_, rfl, Nat.le_refl _⟩, trivial⟩ ⟨⟨rfl, _, rfl, conv_rpe rfl rfl (by decide) rfl rfl rfl⟩, ⟨rfl, _, rfl, conv_rpe rfl rfl (by decide) rfl rfl rfl⟩, ⟨rfl, _, rfl, conv_rpe rfl rfl (by decide) rfl rfl rfl⟩, ⟨rfl, _, rfl, cvt⟩, ⟨rfl, _, rfl, conv_rpe rfl rfl (by decide) rfl (opA_of x) noIds_arrI⟩, ⟨rfl, _, rfl, cvt⟩, trivial⟩ trivial
  ·rintro k ⟨hk, hn⟩
   refine sq (sq (rg [] rfl ?_))
   refine cd rfl (fun h6 => ?_) (fun h6 => ?_)
   ·have hk4 : k < 4 := by simp at h6; omega
    refine sk (sq (bk (sq (rgs [] rfl ?_ ?_))))
    ·simp [holdsC, under, hsz]; omega
    refine cd rfl (fun h8 => ?_) (fun h8 => ?_)
    ·have hb : unB x k = true := by
       have e : (bif letF x.op k == 45 then (opL x).getD k 0 != 0 else false) = true := h8
       rwa [band] at e
     refine sq (rg [] rfl ?_)
     refine WP.ret ?_
     change Fin ..
     exact finI hT (by rfl) (by rw [instrF, if_neg hne, anyTo_bad hb hk4, if_pos rfl])
    ·have hb : unB x k = false := by
       have e : (bif letF x.op k == 45 then (opL x).getD k 0 != 0 else false) = false := h8
       rwa [band] at e
     refine sk (rg [] rfl ?_)
     refine ⟨k + 1, ?_, ?_, ?_⟩
     ·exact ⟨hk4, by rw [anyTo, hn, hb]; rfl⟩
     ·refine em [] trivial ⟨⟨rfl, _, rfl, cvt⟩, ⟨rfl, _, rfl, cvt⟩, ⟨rfl, _, rfl, cvt⟩, ⟨rfl, _, rfl, cvt⟩, ⟨rfl, _, rfl, cvt⟩, ⟨rfl, _, rfl, cvt⟩, trivial⟩ trivial
     ·(try simp only []); first | omega | grind
   ·have hk4 : k = 4 := by simp at h6; omega
    subst hk4
    refine xt (sq (sq (rg [] rfl ?_)))
    refine bk ?_
    refine WP.loop (α := Nat) (fun k => mkSt [(3, .rp 26 (encProg p)), (4, .rp 166 (encFun f)), (5, .rp 162 (encIns x)), (7, .v (.string (formB x.op))), (8, .rp 227 (opA x)), (10, .int k)] []) (fun k => k ≤ 4 ∧ errTo p f x k = 0) (fun k => 4 - k) ?_ ?_
    ·refine ⟨0, ?_, ?_⟩
     ·exact ⟨Nat.zero_le _, rfl⟩
     ·refine em [] trivial ⟨⟨rfl, _, rfl, cvt⟩, ⟨rfl, _, rfl, cvt⟩, ⟨rfl, _, rfl, cvt⟩, ⟨rfl, _, rfl, cvt⟩, ⟨rfl, _, rfl, cvt⟩, ⟨rfl, _, rfl, cvt⟩, trivial⟩ trivial
    ·rintro k ⟨hk, he⟩
     refine sq (sq (rg [] rfl ?_))
     refine cd rfl (fun h11 => ?_) (fun h11 => ?_)
     ·have hk4 : k < 4 := by simp at h11; omega
      refine sk (sq (bk (sq (drs [CG.pure (.int (opndF p f (letF x.op k) ((opL x).getD k 0) x))] rfl ?_ ?_))))
      ·have ho := roperand_ac p f (letF x.op k) ((opL x).getD k 0) x (fun hc => par_ok he hc)
       have hk2 : k < (formB x.op).size := by omega
       refine ⟨⟨⟨by omega, by omega⟩, ⟨by omega, by omega⟩⟩, ?_⟩
       exact ho
      refine sq (rg [] rfl ?_)
      refine cd rfl (fun h14 => ?_) (fun h14 => ?_)
      ·have hb : opndF p f (letF x.op k) ((opL x).getD k 0) x ≠ 0 := by simpa using h14
       refine sq (rg [] rfl ?_)
       refine WP.ret ?_
       change Fin ..
       refine finI hT (by rfl) ?_
       rw [instrF, if_neg hne, hn, if_neg (by simp), err_first he hb hk4]
      ·have hb : opndF p f (letF x.op k) ((opL x).getD k 0) x = 0 := by simpa using h14
       refine sk (rg [] rfl ?_)
       refine ⟨k + 1, ?_, ?_, ?_⟩
       ·exact ⟨hk4, by rw [errTo, he, if_neg (by simp)]; exact hb⟩
       ·refine em [] trivial ⟨⟨rfl, _, rfl, cvt⟩, ⟨rfl, _, rfl, cvt⟩, ⟨rfl, _, rfl, cvt⟩, ⟨rfl, _, rfl, cvt⟩, ⟨rfl, _, rfl, cvt⟩, ⟨rfl, _, rfl, cvt⟩, trivial⟩ trivial
       ·(try simp only []); first | omega | grind
     ·have hk4 : k = 4 := by simp at h11; omega
      subst hk4
      refine xt (sq (rg [] rfl ?_))
      refine WP.ret ?_
      change Fin ..
      exact finI hT (by rfl) (by rw [instrF, if_neg hne, hn]; simp [he])
end Go.Ab


/- Events: how many places; touches compared. -/
set_option autoImplicit false
set_option maxRecDepth 20000
set_option linter.unusedSimpArgs false
set_option linter.unusedVariables false
namespace Go.Ab
open Go.Proofs
def mostF (n : Int) : Int := if n = 1 then 8 else if n = 2 ∨ n = 3 then 4 else if n = 4 ∨ n = 6 then 1 else if n = 5 then 6 else 0
theorem most_ac (n : Int) : AC Tryz.prog T tysN 164 [.int n] [] (.int (mostF n)) [] := by
 refine AC_intro hT Tryz.func164 rfl rfl (Nat.le_of_ble_eq_true rfl) ?_
 refine sq (rg [] rfl ?_)
 refine sq (sq (rg [] rfl ?_))
 refine bk (sq (rg [] rfl ?_))
 refine cd rfl (fun h2 => ?_) (fun h2 => ?_)
 ·refine sq (rg [] rfl ?_)
  refine WP.ret ?_
  change Fin ..
  refine finI hT (by rfl) ?_
  simp_all [mostF]
 ·refine sq (rg [] rfl ?_)
  refine cd rfl (fun h4 => ?_) (fun h4 => ?_)
  ·refine sq (rg [] rfl ?_)
   refine WP.ret ?_
   change Fin ..
   refine finI hT (by rfl) ?_
   simp_all [mostF]
  ·refine sq (rg [] rfl ?_)
   refine cd rfl (fun h6 => ?_) (fun h6 => ?_)
   ·refine sq (rg [] rfl ?_)
    refine WP.ret ?_
    change Fin ..
    refine finI hT (by rfl) ?_
    simp_all [mostF]
   ·refine sq (sq (rg [] rfl ?_))
    refine cd rfl (fun h8 => ?_) (fun h8 => ?_)
    ·refine sk ?_
     refine cd rfl (fun h8 => ?_) (fun h8 => ?_)
     ·refine sq (rg [] rfl ?_)
      refine WP.ret ?_
      change Fin ..
      refine finI hT (by rfl) ?_
      simp_all [mostF]
     ·refine sq (rg [] rfl ?_)
      refine cd rfl (fun h11 => ?_) (fun h11 => ?_)
      ·refine sq (rg [] rfl ?_)
       refine WP.ret ?_
       change Fin ..
       refine finI hT (by rfl) ?_
       simp_all [mostF]
      ·refine sk (sq (rg [] rfl ?_))
       refine WP.ret ?_
       change Fin ..
       refine finI hT (by rfl) ?_
       simp_all [mostF]
    ·refine rg [] rfl ?_
     refine cd rfl (fun h9 => ?_) (fun h9 => ?_)
     ·refine sq (rg [] rfl ?_)
      refine WP.ret ?_
      change Fin ..
      refine finI hT (by rfl) ?_
      simp_all [mostF]
     ·refine sq (rg [] rfl ?_)
      refine cd rfl (fun h11 => ?_) (fun h11 => ?_)
      ·refine sq (rg [] rfl ?_)
       refine WP.ret ?_
       change Fin ..
       refine finI hT (by rfl) ?_
       simp_all [mostF]
      ·refine sk (sq (rg [] rfl ?_))
       refine WP.ret ?_
       change Fin ..
       refine finI hT (by rfl) ?_
       simp_all [mostF]
theorem few_ac (n : Int) : AC Tryz.prog T tysN 99 [.int n] [] (.int (mostF n)) [] := by
 refine AC_intro hT Tryz.func99 rfl rfl (Nat.le_of_ble_eq_true rfl) ?_
 refine sq (rg [] rfl ?_)
 refine sq (sq (rg [] rfl ?_))
 refine bk (sq (rg [] rfl ?_))
 refine cd rfl (fun h2 => ?_) (fun h2 => ?_)
 ·refine sq (rg [] rfl ?_)
  refine WP.ret ?_
  change Fin ..
  refine finI hT (by rfl) ?_
  simp_all [mostF]
 ·refine sq (sq (rg [] rfl ?_))
  refine cd rfl (fun h4 => ?_) (fun h4 => ?_)
  ·refine sk ?_
   refine cd rfl (fun h4 => ?_) (fun h4 => ?_)
   ·refine sq (rg [] rfl ?_)
    refine WP.ret ?_
    change Fin ..
    refine finI hT (by rfl) ?_
    simp_all [mostF]
   ·refine sq (sq (rg [] rfl ?_))
    refine cd rfl (fun h7 => ?_) (fun h7 => ?_)
    ·refine sk ?_
     refine cd rfl (fun h7 => ?_) (fun h7 => ?_)
     ·refine sq (rg [] rfl ?_)
      refine WP.ret ?_
      change Fin ..
      refine finI hT (by rfl) ?_
      simp_all [mostF]
     ·refine sq (rg [] rfl ?_)
      refine cd rfl (fun h10 => ?_) (fun h10 => ?_)
      ·refine sq (rg [] rfl ?_)
       refine WP.ret ?_
       change Fin ..
       refine finI hT (by rfl) ?_
       simp_all [mostF]
      ·refine sk (sq (rg [] rfl ?_))
       refine WP.ret ?_
       change Fin ..
       refine finI hT (by rfl) ?_
       simp_all [mostF]
    ·refine rg [] rfl ?_
     refine cd rfl (fun h8 => ?_) (fun h8 => ?_)
     ·refine sq (rg [] rfl ?_)
      refine WP.ret ?_
      change Fin ..
      refine finI hT (by rfl) ?_
      simp_all [mostF]
     ·refine sq (rg [] rfl ?_)
      refine cd rfl (fun h10 => ?_) (fun h10 => ?_)
      ·refine sq (rg [] rfl ?_)
       refine WP.ret ?_
       change Fin ..
       refine finI hT (by rfl) ?_
       simp_all [mostF]
      ·refine sk (sq (rg [] rfl ?_))
       refine WP.ret ?_
       change Fin ..
       refine finI hT (by rfl) ?_
       simp_all [mostF]
  ·refine rg [] rfl ?_
   refine cd rfl (fun h5 => ?_) (fun h5 => ?_)
   ·refine sq (rg [] rfl ?_)
    refine WP.ret ?_
    change Fin ..
    refine finI hT (by rfl) ?_
    simp_all [mostF]
   ·refine sq (sq (rg [] rfl ?_))
    refine cd rfl (fun h7 => ?_) (fun h7 => ?_)
    ·refine sk ?_
     refine cd rfl (fun h7 => ?_) (fun h7 => ?_)
     ·refine sq (rg [] rfl ?_)
      refine WP.ret ?_
      change Fin ..
      refine finI hT (by rfl) ?_
      simp_all [mostF]
     ·refine sq (rg [] rfl ?_)
      refine cd rfl (fun h10 => ?_) (fun h10 => ?_)
      ·refine sq (rg [] rfl ?_)
       refine WP.ret ?_
       change Fin ..
       refine finI hT (by rfl) ?_
       simp_all [mostF]
      ·refine sk (sq (rg [] rfl ?_))
       refine WP.ret ?_
       change Fin ..
       refine finI hT (by rfl) ?_
       simp_all [mostF]
    ·refine rg [] rfl ?_
     refine cd rfl (fun h8 => ?_) (fun h8 => ?_)
     ·refine sq (rg [] rfl ?_)
      refine WP.ret ?_
      change Fin ..
      refine finI hT (by rfl) ?_
      simp_all [mostF]
     ·refine sq (rg [] rfl ?_)
      refine cd rfl (fun h10 => ?_) (fun h10 => ?_)
      ·refine sq (rg [] rfl ?_)
       refine WP.ret ?_
       change Fin ..
       refine finI hT (by rfl) ?_
       simp_all [mostF]
      ·refine sk (sq (rg [] rfl ?_))
       refine WP.ret ?_
       change Fin ..
       refine finI hT (by rfl) ?_
       simp_all [mostF]
/-- A touch. -/
structure Tch where
  kind : Int
  num : Int
  wr : Bool
  deriving DecidableEq
def encTch (x : Tch) : AV := stru 70 [.int x.kind, .int x.num, .bool x.wr]
def cmpF (a b : Tch) : Int := if a.kind < b.kind ∨ a.kind = b.kind ∧ a.num < b.num then -1 else if a.kind = b.kind ∧ a.num = b.num then 0 else 1
theorem cmp_ac (a b : Tch) : AC Tryz.prog T tysN 165 [encTch a, encTch b] [] (.int (cmpF a b)) [] := by
 refine AC_intro hT Tryz.func165 rfl rfl (Nat.le_of_ble_eq_true rfl) ?_
 refine sq (rg [] rfl ?_)
 refine sq (bk (sq (rg [] rfl ?_)))
 refine cd rfl (fun h1 => ?_) (fun h1 => ?_)
 ·refine sq (rg [] rfl ?_)
  refine WP.ret ?_
  change Fin ..
  refine finI hT (by rfl) ?_
  simp_all [cmpF]
  all_goals (try grind)
 ·refine sq (rg [] rfl ?_)
  refine cd rfl (fun h3 => ?_) (fun h3 => ?_)
  ·refine sq (rg [] rfl ?_)
   refine WP.ret ?_
   change Fin ..
   refine finI hT (by rfl) ?_
   simp_all [cmpF]
   all_goals (try grind)
  ·refine sk (sq (rg [] rfl ?_))
   refine WP.ret ?_
   change Fin ..
   refine finI hT (by rfl) ?_
   simp_all [cmpF]
   all_goals (try grind)
def tch0 : Tch := ⟨0, 0, false⟩
/-- An event. -/
structure Evt where
  go : Int
  a : Int
  b : Int
  op : Int
  c : Int
  val : Int
  tag : Int
  ts : List Tch
  n : Int
def encTs (l : List Tch) : AV := .agg 71 6 (fun i => encTch (l.getD i tch0))
def encE (x : Evt) : AV := stru 73 [.int x.go, .int x.a, .int x.b, .int x.op, .int x.c, .int x.val, .int x.tag, encTs x.ts, .int x.n]
theorem noIds_E (x : Evt) : noIds (encE x) = true := noIds_agg (fun i hi => by
  match i, hi with
  | 0, _ | 1, _ | 2, _ | 3, _ | 4, _ | 5, _ | 6, _ | 8, _ => rfl
  | 7, _ => exact noIds_agg (fun j _ => noIds_agg (fun q hq => by match q, hq with | 0, _ | 1, _ | 2, _ => rfl)))
def tAt (x : Evt) (i : Nat) : Tch := x.ts.getD i tch0
def rowE (x : Evt) (i : Nat) : Bool := if (i : Int) ≥ x.n then decide (tAt x i = tch0) else (decide (0 ≤ (tAt x i).num) && decide ((tAt x i).num < mostF (tAt x i).kind) && (i == 0 || decide (cmpF (tAt x (i - 1)) (tAt x i) < 0)))
def ownE (x : Evt) : Nat → Bool
  | 0 => false
  | i + 1 => ownE x i || (decide ((i : Int) < x.n) && decide (tAt x i = ⟨5, x.go, true⟩))
def rightE (x : Evt) : Bool := decide (0 ≤ x.go ∧ x.go < 6 ∧ 1 ≤ x.n ∧ x.n ≤ 6) && (allTo (rowE x) 6 && ownE x 6)
theorem tch_eq {t : Tch} (h : (!(t.kind == 0 && (t.num == 0 && (t.wr == false && true)))) = false) : t = tch0 := by
  obtain ⟨a, b, c⟩ := t
  simp at h
  simp [tch0, h]
theorem tch5 (t : Tch) (g : Int) : decide (t = ⟨5, g, true⟩) = (t.kind == 5 && (t.num == g && (t.wr == true && true))) := by
  obtain ⟨a, b, c⟩ := t
  rw [Bool.eq_iff_iff]
  simp
theorem right_no {x : Evt} {i : Nat} (hi : i < 6) (h : rowE x i = false) : rightE x = false := by
  have : allTo (rowE x) 6 = false := by
    cases hz : allTo (rowE x) 6 with
    | false => rfl
    | true => have := allTo_iff.1 hz i hi; rw [h] at this; cases this
  simp [rightE, this]
theorem row_eq {x : Evt} {i : Nat} (h : (i : Int) < x.n) : rowE x i = !(decide ((tAt x i).num < 0) || decide ((tAt x i).num ≥ mostF (tAt x i).kind) || (decide ((i : Int) > 0) && decide (cmpF (tAt x (i - 1)) (tAt x i) ≥ 0))) := by
  rw [rowE, if_neg (by omega)]
  rw [Bool.eq_iff_iff]
  simp only [Bool.and_eq_true, decide_eq_true_eq, Bool.or_eq_true, beq_iff_eq, Bool.not_eq_true', Bool.or_eq_false_iff, decide_eq_false_iff_not, Bool.and_eq_false_iff]
  omega
theorem dright_ac (x : Evt) : AC Tryz.prog T tysN 116 [encE x] [] (.bool (rightE x)) [] := by
 refine AC_intro hT Tryz.func116 rfl rfl (Nat.le_of_ble_eq_true rfl) ?_
 refine sq (rg [] rfl ?_)
 refine sq (sq (rg [] rfl ?_))
 refine cd rfl (fun h1 => ?_) (fun h1 => ?_)
 ·simp only [bor] at h1
  refine sq (rg [] rfl ?_)
  refine WP.ret ?_
  change Fin ..
  refine fin1 hT (by rfl) ?_
  have : ¬ (0 ≤ x.go ∧ x.go < 6 ∧ 1 ≤ x.n ∧ x.n ≤ 6) := by simp at h1; omega
  simp [rightE, this]
 ·simp only [bor] at h1
  have hh : 0 ≤ x.go ∧ x.go < 6 ∧ 1 ≤ x.n ∧ x.n ≤ 6 := by simp at h1; omega
  refine sk (sq (rg [] rfl ?_))
  refine sq (sq (rg [] rfl ?_))
  refine bk ?_
  refine WP.loop (α := Nat) (fun i => mkSt [(1, .rp 73 (encE x)), (3, .bool (ownE x i)), (25, encTs x.ts), (26, .int i)] []) (fun i => i ≤ 6 ∧ allTo (rowE x) i = true) (fun i => 6 - i) ?_ ?_
  ·refine ⟨0, ?_, ?_⟩
   ·exact ⟨Nat.zero_le _, rfl⟩
   ·refine em [(.s 1 0, 1)] ⟨⟨_, rfl, Nat.le_refl _⟩, trivial⟩ ⟨⟨rfl, _, rfl, conv_rpe rfl rfl (Nat.lt_succ_self 0) rfl rfl (noIds_E _)⟩, ⟨rfl, _, rfl, cvt⟩, ⟨rfl, _, rfl, cvt⟩, ⟨rfl, _, rfl, cvt⟩, trivial⟩ trivial
  ·rintro i ⟨hi, hal⟩
   refine sq (rg [] rfl ?_)
   refine sq ?_
   refine cd rfl (fun h5 => ?_) (fun h5 => ?_)
   ·have hil : i < 6 := by simp at h5; omega
    refine sk (sq (bk (sq (rgs [] rfl ?_ ?_))))
    ·simp [holdsC, under]
     omega
    refine sq (sq (rg [] rfl ?_))
    refine cd rfl (fun h7 => ?_) (fun h7 => ?_)
    ·have hge : (i : Int) ≥ x.n := by simpa using h7
     have hlt : ¬ (i : Int) < x.n := by omega
     refine sq (sq (rg [] rfl ?_))
     refine cd rfl (fun h8 => ?_) (fun h8 => ?_)
     ·have hne : tAt x i ≠ tch0 := fun e => by
        have e' : x.ts.getD (i : Int).toNat tch0 = tch0 := e
        rw [e'] at h8
        simp [tch0] at h8
      refine sq (rg [] rfl ?_)
      refine WP.ret ?_
      change Fin ..
      exact fin1 hT (by rfl) (right_no hil (by simp [rowE, hge, hne])).symm
     ·have heq : tAt x i = tch0 := tch_eq h8
      refine sk (xt (rg [] rfl ?_))
      refine ⟨i + 1, ?_, ?_, ?_⟩
      ·exact ⟨hil, by simp [allTo, hal, rowE, hge, heq]⟩
      ·refine em [] trivial ⟨⟨rfl, _, rfl, cvt⟩, ⟨rfl, _, rfl, conv_eq (by simp [ownE, hlt])⟩, ⟨rfl, _, rfl, cvt⟩, ⟨rfl, _, rfl, cvt⟩, trivial⟩ trivial
      ·(try simp only []); first | omega | grind
    ·have hlt : (i : Int) < x.n := by simp at h7; omega
     have hrow := row_eq hlt
     have hm := most_ac (tAt x i).kind
     have hc := cmp_ac (tAt x (i - 1)) (tAt x i)
     refine sk (sq (sq (drs [CG.pure (.int (mostF (tAt x i).kind)), CG.pure (.int (cmpF (tAt x (i - 1)) (tAt x i)))] rfl ?_ ?_)))
     ·rcases Nat.eq_zero_or_pos i with h0 | h0
      · subst h0
        simp [holdsC, under, CG.pure]
        exact fun _ => hm
      · have ew : IntKind.i64.wrap ((i : Int) - 1) = ((i - 1 : Nat) : Int) := by rw [wrap_id (by omega) (by omega)]; omega
        simp [holdsC, under, CG.pure, ew]
        exact ⟨⟨⟨fun _ => hm, fun _ _ _ => by omega⟩, fun _ _ _ => hc⟩, fun a b c => ⟨⟨a, b⟩, c⟩⟩
     refine cd rfl (fun h10 => ?_) (fun h10 => ?_)
     ·simp only [bor, band] at h10
      refine sq (rg [] rfl ?_)
      refine WP.ret ?_
      change Fin ..
      exact fin1 hT (by rfl) (right_no hil (by rw [hrow]; exact congrArg (! ·) h10)).symm
     ·simp only [bor, band] at h10
      refine sk (rg [] rfl ?_)
      refine rg [] rfl ?_
      refine ⟨i + 1, ?_, ?_, ?_⟩
      ·exact ⟨hil, by simp only [allTo, hal, Bool.true_and]; rw [hrow]; exact congrArg (! ·) h10⟩
      ·refine em [] trivial ⟨⟨rfl, _, rfl, cvt⟩, ⟨rfl, _, rfl, ?_⟩, ⟨rfl, _, rfl, cvt⟩, ⟨rfl, _, rfl, cvt⟩, trivial⟩ trivial
       ·refine conv_eq ?_
        rw [bor]
        simp only [ownE, decide_eq_true hlt, Bool.true_and, tch5]
        rfl
      ·(try simp only []); first | omega | grind
   ·have hil : i = 6 := by simp at h5; omega
    subst hil
    refine xt (sq (rg [] rfl ?_))
    refine WP.ret ?_
    change Fin ..
    refine fin1 hT (by rfl) ?_
    simp [rightE, hh, hal]
theorem cmp_ge (p c : Tch) : decide (cmpF p c ≥ 0) = (decide (p.kind > c.kind) || (p.kind == c.kind && decide (p.num ≥ c.num))) := by
  unfold cmpF
  rw [Bool.eq_iff_iff]
  simp only [Bool.or_eq_true, Bool.and_eq_true, decide_eq_true_eq, beq_iff_eq]
  split
  · omega
  · split <;> omega
theorem eright_ac (x : Evt) : AC Tryz.prog T tysN 53 [encE x] [] (.bool (rightE x)) [] := by
 refine AC_intro hT Tryz.func53 rfl rfl (Nat.le_of_ble_eq_true rfl) ?_
 refine sq (rg [] rfl ?_)
 refine sq (sq (rg [] rfl ?_))
 refine cd rfl (fun h1 => ?_) (fun h1 => ?_)
 ·simp only [bor] at h1
  refine sq (rg [] rfl ?_)
  refine WP.ret ?_
  change Fin ..
  refine fin1 hT (by rfl) ?_
  have : ¬ (0 ≤ x.go ∧ x.go < 6 ∧ 1 ≤ x.n ∧ x.n ≤ 6) := by simp at h1; omega
  simp [rightE, this]
 ·simp only [bor] at h1
  have hh : 0 ≤ x.go ∧ x.go < 6 ∧ 1 ≤ x.n ∧ x.n ≤ 6 := by simp at h1; omega
  refine sk (sq (rg [] rfl ?_))
  refine sq (sq (rg [] rfl ?_))
  refine bk ?_
  refine WP.loop (α := Nat) (fun i => mkSt [(1, .rp 73 (encE x)), (3, .bool (ownE x i)), (4, .int i)] []) (fun i => i ≤ 6 ∧ allTo (rowE x) i = true) (fun i => 6 - i) ?_ ?_
  ·refine ⟨0, ?_, ?_⟩
   ·exact ⟨Nat.zero_le _, rfl⟩
   ·refine em [(.s 1 0, 1)] ⟨⟨_, rfl, Nat.le_refl _⟩, trivial⟩ ⟨⟨rfl, _, rfl, conv_rpe rfl rfl (Nat.lt_succ_self 0) rfl rfl (noIds_E _)⟩, ⟨rfl, _, rfl, cvt⟩, ⟨rfl, _, rfl, cvt⟩, trivial⟩ trivial
  ·rintro i ⟨hi, hal⟩
   refine sq (sq (rg [] rfl ?_))
   refine cd rfl (fun h5 => ?_) (fun h5 => ?_)
   ·have hil : i < 6 := by simp at h5; omega
    refine sk (sq (bk (sq (rgs [] rfl ?_ ?_))))
    ·simp [holdsC, under]
     omega
    refine sq (sq (rg [] rfl ?_))
    refine cd rfl (fun h8 => ?_) (fun h8 => ?_)
    ·have hge : (i : Int) ≥ x.n := by simpa using h8
     have hlt : ¬ (i : Int) < x.n := by omega
     refine sq (sq (rg [] rfl ?_))
     refine cd rfl (fun h9 => ?_) (fun h9 => ?_)
     ·have hne : tAt x i ≠ tch0 := fun e => by
        have e' : x.ts.getD (i : Int).toNat tch0 = tch0 := e
        rw [e'] at h9
        simp [tch0] at h9
      refine sq (rg [] rfl ?_)
      refine WP.ret ?_
      change Fin ..
      exact fin1 hT (by rfl) (right_no hil (by simp [rowE, hge, hne])).symm
     ·have heq : tAt x i = tch0 := tch_eq h9
      refine sk (xt (rg [] rfl ?_))
      refine ⟨i + 1, ?_, ?_, ?_⟩
      ·exact ⟨hil, by simp [allTo, hal, rowE, hge, heq]⟩
      ·refine em [] trivial ⟨⟨rfl, _, rfl, cvt⟩, ⟨rfl, _, rfl, conv_eq (by simp [ownE, hlt])⟩, ⟨rfl, _, rfl, cvt⟩, trivial⟩ trivial
      ·(try simp only []); first | omega | grind
    ·have hlt : (i : Int) < x.n := by simp at h8; omega
     have hrow := row_eq hlt
     rw [cmp_ge] at hrow
     have hm := most_ac (tAt x i).kind
     have hfw := few_ac (tAt x i).kind
     refine sk (sq (sq (drs [CG.pure (.int (mostF (tAt x i).kind))] rfl ?_ ?_)))
     ·simp [holdsC, under, CG.pure]
      exact fun _ => hfw
     refine cd rfl (fun h11 => ?_) (fun h11 => ?_)
     ·simp only [bor, band] at h11
      refine sq (rg [] rfl ?_)
      refine WP.ret ?_
      change Fin ..
      refine fin1 hT (by rfl) (right_no hil ?_).symm
      rw [hrow]
      have e : (decide ((tAt x i).num < 0) || decide ((tAt x i).num ≥ mostF (tAt x i).kind)) = true := h11
      rw [e]
      rfl
     ·simp only [bor, band] at h11
      have e11 : (decide ((tAt x i).num < 0) || decide ((tAt x i).num ≥ mostF (tAt x i).kind)) = false := h11
      rw [e11, Bool.false_or] at hrow
      refine sk (sq (sq (rg [] rfl ?_)))
      refine cd rfl (fun h13 => ?_) (fun h13 => ?_)
      ·have hi0 : 0 < i := by simp at h13; omega
       have ew : IntKind.i64.wrap ((i : Int) - 1) = ((i - 1 : Nat) : Int) := by rw [wrap_id (by omega) (by omega)]; omega
       refine sq (rgs [] rfl ?_ ?_)
       ·simp [holdsC, under, ew]
        omega
       refine sq (rg [] rfl ?_)
       refine cd rfl (fun h15 => ?_) (fun h15 => ?_)
       ·simp only [bor, band] at h15
        rw [ew] at h15
        refine sq (rg [] rfl ?_)
        refine WP.ret ?_
        change Fin ..
        refine fin1 hT (by rfl) (right_no hil ?_).symm
        rw [hrow]
        have e : (decide ((tAt x (i - 1)).kind > (tAt x i).kind) || ((tAt x (i - 1)).kind == (tAt x i).kind && decide ((tAt x (i - 1)).num ≥ (tAt x i).num))) = true := h15
        rw [e, decide_eq_true (show (i : Int) > 0 by omega)]
        rfl
       ·simp only [bor, band] at h15
        rw [ew] at h15
        refine sk (rg [] rfl ?_)
        refine rg [] rfl ?_
        refine ⟨i + 1, ?_, ?_, ?_⟩
        ·refine ⟨hil, ?_⟩
         simp only [allTo, hal, Bool.true_and]
         rw [hrow]
         have e : (decide ((tAt x (i - 1)).kind > (tAt x i).kind) || ((tAt x (i - 1)).kind == (tAt x i).kind && decide ((tAt x (i - 1)).num ≥ (tAt x i).num))) = false := h15
         rw [e, Bool.and_false]
         rfl
        ·refine em [] trivial ⟨⟨rfl, _, rfl, cvt⟩, ⟨rfl, _, rfl, ?_⟩, ⟨rfl, _, rfl, cvt⟩, trivial⟩ trivial
         ·refine conv_eq ?_
          simp only [bor, band, ownE, decide_eq_true hlt, Bool.true_and, tch5]
          rw [show ((tAt x i).wr == true && true) = (tAt x i).wr by cases (tAt x i).wr <;> rfl, Bool.and_assoc]
          rfl
        ·(try simp only []); first | omega | grind
      ·have hi0 : i = 0 := by simp at h13; omega
       refine sk (rg [] rfl ?_)
       refine rg [] rfl ?_
       refine ⟨i + 1, ?_, ?_, ?_⟩
       ·refine ⟨hil, ?_⟩
        simp only [allTo, hal, Bool.true_and]
        rw [hrow, decide_eq_false (show ¬ (i : Int) > 0 by omega)]
        rfl
       ·refine em [] trivial ⟨⟨rfl, _, rfl, cvt⟩, ⟨rfl, _, rfl, ?_⟩, ⟨rfl, _, rfl, cvt⟩, trivial⟩ trivial
        ·refine conv_eq ?_
         simp only [bor, band, ownE, decide_eq_true hlt, Bool.true_and, tch5]
         rw [show ((tAt x i).wr == true && true) = (tAt x i).wr by cases (tAt x i).wr <;> rfl, Bool.and_assoc]
         rfl
       ·(try simp only []); first | omega | grind
   ·have hil : i = 6 := by simp at h5; omega
    subst hil
    refine xt (sq (rg [] rfl ?_))
    refine WP.ret ?_
    change Fin ..
    refine fin1 hT (by rfl) ?_
    simp [rightE, hh, hal]
def evt0 : Evt := ⟨0, 0, 0, 0, 0, 0, 0, [], 0⟩
def evts (f : Bool) (l : List Evt) : AV := .row 73 f l.length (fun i => encE (l.getD i evt0))
def eAt (l : List Evt) (i : Nat) : Evt := l.getD i evt0
def badE (c : Evt) : Bool := !rightE c
def firstE (h : List Evt) : Int := if h.any badE then h.findIdx badE else -1
theorem anyE_no {h : List Evt} (hn : ∀ j, j < h.length → badE (h.getD j evt0) = false) : h.any badE = false := by
  rw [List.any_eq_false]
  intro x hx
  obtain ⟨i, hi, e⟩ := List.getElem_of_mem hx
  have := hn i hi
  simpa [hi, e] using this
theorem anyE_yes {h : List Evt} {i : Nat} (hi : i < h.length) (hp : badE (h.getD i evt0) = true) : h.any badE = true := by
  rw [List.any_eq_true]
  exact ⟨h[i], List.getElem_mem hi, by simpa [hi] using hp⟩
theorem firstE_none {h : List Evt} (hn : ∀ j, j < h.length → badE (h.getD j evt0) = false) : -1 = firstE h := by
  simp [firstE, anyE_no hn]
theorem firstE_at {h : List Evt} {i : Nat} (hi : i < h.length) (hp : badE (h.getD i evt0) = true) (hn : ∀ j, j < i → badE (h.getD j evt0) = false) : (i : Int) = firstE h := by
  have h1 := anyE_yes hi hp
  simp only [firstE, h1, if_true]
  congr 1
  symm
  rw [List.findIdx_eq hi]
  refine ⟨by simpa [hi] using hp, fun j hj => ?_⟩
  have := hn j hj
  have hj' : j < h.length := by omega
  simpa [hj'] using this
theorem echk_ac (x : Evt) : AC Tryz.prog T tysN 115 [encE x] [] (.bool (badE x)) [] := by
 refine AC_intro hT Tryz.func115 rfl rfl (Nat.le_of_ble_eq_true rfl) ?_
 refine sq (rg [] rfl ?_)
 refine sq (rgs [CG.pure (.bool (rightE x))] rfl ?_ ?_)
 ·exact ⟨rfl, dright_ac x⟩
 refine WP.ret ?_
 change Fin ..
 exact fin1 hT rfl rfl
theorem eidx_ac (g : Bool) (h : List Evt) : AC Tryz.prog T tysN 163 [evts g h, .clo 115 []] [] (.int (firstE h)) [] := by
 refine AC_intro hT Tryz.func163 rfl rfl (Nat.le_of_ble_eq_true rfl) ?_
 refine WP.rowlen 0 rfl (fun hl => ?_)
 refine sq (rg [] rfl ?_)
 refine sq (sq (rg [] rfl ?_))
 refine bk ?_
 refine WP.loop (α := Nat) (fun i => mkSt [(0, evts g h), (1, .clo 115 []), (7, .int h.length), (8, .int i)] []) (fun i => i ≤ h.length ∧ ∀ j, j < i → badE (h.getD j evt0) = false) (fun i => h.length - i) ?_ ?_
 ·refine ⟨0, ?_, ?_⟩
  ·exact ⟨Nat.zero_le _, fun j hj => by omega⟩
  ·refine em [] trivial ⟨⟨rfl, _, rfl, cvt⟩, ⟨rfl, _, rfl, cvt⟩, ⟨rfl, _, rfl, cvt⟩, ⟨rfl, _, rfl, cvt⟩, trivial⟩ trivial
 ·rintro i ⟨hi, hn⟩
  refine sq (rg [] rfl ?_)
  refine sq ?_
  refine cd rfl (fun h2 => ?_) (fun h2 => ?_)
  ·have hil : i < h.length := by simpa using h2
   refine sk (sq (bk (sq (rg [] rfl ?_))))
   refine sq (rgs [CG.pure (.bool (badE (h.getD i evt0)))] rfl ?_ ?_)
   ·exact ⟨⟨by omega, by omega⟩, echk_ac _⟩
   refine cd rfl (fun h4 => ?_) (fun h4 => ?_)
   ·have hx : badE (h.getD i evt0) = true := h4
    refine sq (rg [] rfl ?_)
    refine WP.ret ?_
    change Fin ..
    exact finI hT rfl (firstE_at hil hx hn)
   ·have hx : badE (h.getD i evt0) = false := h4
    refine sk (rg [] rfl ?_)
    refine ⟨i + 1, ?_, ?_, ?_⟩
    ·refine ⟨hil, fun j hj => ?_⟩
     rcases Nat.lt_or_ge j i with h | h
     · exact hn j h
     · obtain rfl : j = i := by omega
       exact hx
    ·refine em [] trivial ⟨⟨rfl, _, rfl, cvt⟩, ⟨rfl, _, rfl, cvt⟩, ⟨rfl, _, rfl, cvt⟩, ⟨rfl, _, rfl, cvt⟩, trivial⟩ trivial
    ·(try simp only []); first | omega | grind
  ·have hil : i = h.length := by simp at h2; omega
   subst hil
   refine xt (sq (rg [] rfl ?_))
   refine WP.ret ?_
   change Fin ..
   exact finI hT rfl (firstE_none hn)
theorem econt_ac (g : Bool) (h : List Evt) : AC Tryz.prog T tysN 114 [evts g h, .clo 115 []] [] (.bool (h.any badE)) [] := by
 refine AC_intro hT Tryz.func114 rfl rfl (Nat.le_of_ble_eq_true rfl) ?_
 refine sq (rg [] rfl ?_)
 refine sq (rgs [CG.pure (.int (firstE h))] rfl ?_ ?_)
 ·exact eidx_ac g h
 refine WP.ret ?_
 change Fin ..
 refine fin1 hT rfl ?_
 by_cases h : h.any badE = true
 · simp only [firstE, h, if_true]; simp
 · simp only [firstE, h]; simp
def chkE (h : List Evt) : Int := if h.length > 256 then 2 else if h.any badE then 7 else 0
theorem dcheck_ac (g : Bool) (h : List Evt) : AC Tryz.prog T tysN 72 [evts g h] [] (.int (chkE h)) [] := by
 refine AC_intro hT Tryz.func72 rfl rfl (Nat.le_of_ble_eq_true rfl) ?_
 refine sq (rg [] rfl ?_)
 refine sq (sq (rg [] rfl ?_))
 refine cd rfl (fun h1 => ?_) (fun h1 => ?_)
 ·have hgt : h.length > 256 := by simp at h1; omega
  refine sq (rg [] rfl ?_)
  refine WP.ret ?_
  change Fin ..
  refine finI hT rfl ?_
  simp [chkE, hgt]
 ·have hgt : ¬ h.length > 256 := by simp at h1; omega
  refine sk (sq (sq (rgs [CG.pure (.bool (h.any badE))] rfl ?_ ?_)))
  ·exact econt_ac g h
  refine cd rfl (fun h3 => ?_) (fun h3 => ?_)
  ·have hb : h.any badE = true := h3
   refine sq (rg [] rfl ?_)
   refine WP.ret ?_
   change Fin ..
   refine finI hT rfl ?_
   simp [chkE, hgt, hb]
  ·have hb : h.any badE = false := h3
   refine sk (sq (rg [] rfl ?_))
   refine WP.ret ?_
   change Fin ..
   refine finI hT rfl ?_
   simp [chkE, hgt, hb]
theorem rcheck_ac (g : Bool) (h : List Evt) : AC Tryz.prog T tysN 17 [evts g h] [] (.int (chkE h)) [] := by
 refine AC_intro hT Tryz.func17 rfl rfl (Nat.le_of_ble_eq_true rfl) ?_
 refine sq (rg [] rfl ?_)
 refine sq (sq (rg [] rfl ?_))
 refine cd rfl (fun h1 => ?_) (fun h1 => ?_)
 ·have hgt : h.length > 256 := by simp at h1; omega
  refine sq (rg [] rfl ?_)
  refine WP.ret ?_
  change Fin ..
  refine finI hT rfl ?_
  simp [chkE, hgt]
 ·have hgt : ¬ h.length > 256 := by simp at h1; omega
  refine sk (sq (sq (rg [] rfl ?_)))
  refine bk ?_
  refine WP.loop (α := Nat) (fun i => mkSt [(0, evts g h), (3, .int i)] []) (fun i => i ≤ h.length ∧ ∀ j, j < i → badE (h.getD j evt0) = false) (fun i => h.length - i) ?_ ?_
  ·refine ⟨0, ?_, ?_⟩
   ·exact ⟨Nat.zero_le _, fun j hj => by omega⟩
   ·refine em [] trivial ⟨⟨rfl, _, rfl, cvt⟩, ⟨rfl, _, rfl, cvt⟩, trivial⟩ trivial
  ·rintro i ⟨hi, hn⟩
   refine sq (sq (rg [] rfl ?_))
   refine cd rfl (fun h4 => ?_) (fun h4 => ?_)
   ·have hil : i < h.length := by simpa using h4
    refine sk (sq (bk (sq (rgs [CG.pure (.bool (rightE (h.getD i evt0)))] rfl ?_ ?_))))
    ·exact ⟨⟨by omega, by omega⟩, eright_ac _⟩
    refine cd rfl (fun h6 => ?_) (fun h6 => ?_)
    ·have hx : badE (h.getD i evt0) = true := h6
     refine sq (rg [] rfl ?_)
     refine WP.ret ?_
     change Fin ..
     refine finI hT rfl ?_
     simp [chkE, hgt, anyE_yes hil hx]
    ·have hx : badE (h.getD i evt0) = false := h6
     refine sk (rg [] rfl ?_)
     refine ⟨i + 1, ?_, ?_, ?_⟩
     ·refine ⟨hil, fun j hj => ?_⟩
      rcases Nat.lt_or_ge j i with h | h
      · exact hn j h
      · obtain rfl : j = i := by omega
        exact hx
     ·refine em [] trivial ⟨⟨rfl, _, rfl, cvt⟩, ⟨rfl, _, rfl, cvt⟩, trivial⟩ trivial
     ·(try simp only []); first | omega | grind
   ·have hil : i = h.length := by simp at h4; omega
    subst hil
    refine xt (sq (rg [] rfl ?_))
    refine WP.ret ?_
    change Fin ..
    refine finI hT rfl ?_
    simp [chkE, hgt, anyE_no hn]
end Go.Ab


/- What depends on what. -/
set_option autoImplicit false
set_option maxRecDepth 20000
set_option linter.unusedSimpArgs false
set_option linter.unusedVariables false
namespace Go.Ab
open Go.Proofs
theorem conv_rowN {m : Id → Option Ob} {F : Id → Nat} {T : Nat → TI} {e len len' : Nat} {f f' : Bool} {g g' : Nat → AV} (hn : len = len') (hf : f' = true → f = true) (h : ∀ j, j < len' → g j = g' j) : Conv m F T (.row e f len g) (.row e f' len' g') := by
  subst hn; exact conv_rowL hf h
def tchs (f : Bool) (l : List Tch) : AV := .row 70 f l.length (fun i => encTch (l.getD i tch0))
def clampN (n : Int) : Nat := (if n < 0 then 0 else if n > 6 then 6 else n).toNat
theorem clampN_le (n : Int) : clampN n ≤ 6 := by unfold clampN; split <;> (try split) <;> omega
def touchL (x : Evt) : List Tch := (List.range (clampN x.n)).map (tAt x)
theorem touchL_len (x : Evt) : (touchL x).length = clampN x.n := by simp [touchL]
theorem touchL_get {x : Evt} {i : Nat} (h : i < clampN x.n) : (touchL x).getD i tch0 = tAt x i := by simp [touchL, List.getD_eq_getElem?_getD, h]
def clB (x y : Tch) : Bool := x.kind == y.kind && x.num == y.num && (x.wr || y.wr)
def clashB (a b : List Tch) : Bool := a.any fun x => b.any fun y => clB x y
def depB (x y : Evt) : Bool := clashB (touchL x) (touchL y)
theorem clash_yes {a b : List Tch} {i k : Nat} (hi : i < a.length) (hk : k < b.length) (h : clB (a.getD i tch0) (b.getD k tch0) = true) : clashB a b = true := by
  simp only [clashB, List.any_eq_true]
  exact ⟨a[i], List.getElem_mem hi, b[k], List.getElem_mem hk, by simpa [List.getD_eq_getElem?_getD, hi, hk] using h⟩
theorem clash_no {a b : List Tch} (h : ∀ i, i < a.length → ∀ k, k < b.length → clB (a.getD i tch0) (b.getD k tch0) = false) : clashB a b = false := by
  simp only [clashB, List.any_eq_false, List.any_eq_true, not_exists, not_and]
  intro x hx y hy
  obtain ⟨i, hi, rfl⟩ := List.getElem_of_mem hx
  obtain ⟨k, hk, rfl⟩ := List.getElem_of_mem hy
  have := h i hi k hk
  simp [List.getD_eq_getElem?_getD, hi, hk] at this
  simp [this]
theorem touched_ac (x : Evt) : AC Tryz.prog T tysN 121 [.rp 73 (encE x)] [] (tchs false (touchL x)) [] := by
 refine AC_intro hT Tryz.func121 rfl rfl (Nat.le_of_ble_eq_true rfl) ?_
 refine sq (rg [] rfl ?_)
 refine sq ?_
 have hcl : (if (if x.n < 6 then x.n else 6) > 0 then (if x.n < 6 then x.n else 6) else (0 : Int)).toNat = clampN x.n := by
   unfold clampN
   congr 1
   split <;> split <;> (try split) <;> omega
 have hcl6 := clampN_le x.n
 refine drs [] rfl ?_ ?_
 ·have h0 : (0 : Int) ≤ (if (if x.n < 6 then x.n else 6) > 0 then (if x.n < 6 then x.n else 6) else (0 : Int)) := by split <;> omega
  have h6 : (if (if x.n < 6 then x.n else 6) > 0 then (if x.n < 6 then x.n else 6) else (0 : Int)) ≤ 6 := by split <;> (try split) <;> omega
  simp [holdsC, under, slOk, slB, capEq]
  exact ⟨h0, h6⟩
 refine WP.ret ?_
 change Fin ..
 refine fin_mk hT [] (ts := [(2, tchs false (touchL x))]) (l := [tchs false (touchL x)]) trivial ⟨⟨rfl, _, rfl, ?_⟩, trivial⟩ trivial rfl rfl rfl
 refine conv_rowN ?_ (fun h => h) (fun j hj => ?_)
 · rw [touchL_len, ← hcl]
   simp only [slB, Option.getD_some, Option.getD_none, Int.sub_zero]
 · rw [touchL_len] at hj
   rw [touchL_get hj]
   show encTch (x.ts.getD ((0 : Int).toNat + j) tch0) = _
   simp [tAt]
theorem clash_ac (f g : Bool) (a b : List Tch) : AC Tryz.prog T tysN 58 [tchs f a, tchs g b] [] (.bool (clashB a b)) [] := by
 refine AC_intro hT Tryz.func58 rfl rfl (Nat.le_of_ble_eq_true rfl) ?_
 refine WP.rowlen 0 rfl (fun hla => ?_)
 refine WP.rowlen 1 rfl (fun hlb => ?_)
 refine sq (rg [] rfl ?_)
 refine sq (sq (rg [] rfl ?_))
 refine bk ?_
 refine WP.loop (α := Nat) (fun i => mkSt [(1, tchs g b), (9, tchs f a), (10, .int a.length), (11, .int i)] []) (fun i => i ≤ a.length ∧ ∀ p, p < i → ∀ q, q < b.length → clB (a.getD p tch0) (b.getD q tch0) = false) (fun i => a.length - i) ?_ ?_
 ·refine ⟨0, ?_, ?_⟩
  ·exact ⟨Nat.zero_le _, fun p hp => by omega⟩
  ·refine em [] trivial ⟨⟨rfl, _, rfl, cvt⟩, ⟨rfl, _, rfl, cvt⟩, ⟨rfl, _, rfl, cvt⟩, ⟨rfl, _, rfl, cvt⟩, trivial⟩ trivial
 ·rintro i ⟨hi, hn⟩
  refine sq (rg [] rfl ?_)
  refine sq ?_
  refine cd rfl (fun h2 => ?_) (fun h2 => ?_)
  ·have hil : i < a.length := by simpa using h2
   refine sk (sq (bk (sq (rgs [] rfl ?_ ?_))))
   ·simp [holdsC, under]; omega
   refine sq (rg [] rfl ?_)
   refine bk ?_
   refine WP.loop (α := Nat) (fun k => mkSt [(1, tchs g b), (6, .ptr (.s 6 0) 1 0 []), (9, tchs f a), (10, .int a.length), (11, .int i), (15, tchs g b), (16, .int b.length), (17, .int k)] [(.s 6 0, .cells ⟨70, 1, fun _ => encTch (a.getD i tch0), 0⟩)]) (fun k => k ≤ b.length ∧ ∀ q, q < k → clB (a.getD i tch0) (b.getD q tch0) = false) (fun k => b.length - k) ?_ ?_
   ·refine ⟨0, ?_, ?_⟩
    ·exact ⟨Nat.zero_le _, fun p hp => by omega⟩
    ·refine em [] trivial ⟨⟨rfl, _, rfl, cvt⟩, ⟨rfl, _, rfl, cvt⟩, ⟨rfl, _, rfl, cvt⟩, ⟨rfl, _, rfl, cvt⟩, ⟨rfl, _, rfl, cvt⟩, ⟨rfl, _, rfl, cvt⟩, ⟨rfl, _, rfl, cvt⟩, ⟨rfl, _, rfl, cvt⟩, trivial⟩ ⟨obs rfl, trivial⟩
   ·rintro k ⟨hk, hn2⟩
    refine sq (rg [] rfl ?_)
    refine sq ?_
    refine cd rfl (fun h5 => ?_) (fun h5 => ?_)
    ·have hkl : k < b.length := by simpa using h5
     refine sk (sq (bk (sq (rgs [] rfl ?_ ?_))))
     ·simp [holdsC, under]; omega
     refine sq (rg [] rfl ?_)
     refine cd rfl (fun h7 => ?_) (fun h7 => ?_)
     ·have hc : clB (a.getD i tch0) (b.getD k tch0) = true := by
        simp only [bor, band] at h7
        exact h7
      refine sq (rg [] rfl ?_)
      refine WP.ret ?_
      change Fin ..
      exact fin1 hT (by rfl) (clash_yes hil hkl hc).symm
     ·have hc : clB (a.getD i tch0) (b.getD k tch0) = false := by
        simp only [bor, band] at h7
        exact h7
      refine sk (rg [] rfl ?_)
      refine ⟨k + 1, ?_, ?_, ?_⟩
      ·refine ⟨hkl, fun q hq => ?_⟩
       rcases Nat.lt_or_ge q k with h | h
       · exact hn2 q h
       · obtain rfl : q = k := by omega
         exact hc
      ·refine em [] trivial ⟨⟨rfl, _, rfl, cvt⟩, ⟨rfl, _, rfl, cvt⟩, ⟨rfl, _, rfl, cvt⟩, ⟨rfl, _, rfl, cvt⟩, ⟨rfl, _, rfl, cvt⟩, ⟨rfl, _, rfl, cvt⟩, ⟨rfl, _, rfl, cvt⟩, ⟨rfl, _, rfl, cvt⟩, trivial⟩ ⟨obs rfl, trivial⟩
      ·(try simp only []); first | omega | grind
    ·have hkl : k = b.length := by simp at h5; omega
     subst hkl
     refine xt (rg [] rfl ?_)
     refine ⟨i + 1, ?_, ?_, ?_⟩
     ·refine ⟨hil, fun p hp => ?_⟩
      rcases Nat.lt_or_ge p i with h | h
      · exact hn p h
      · obtain rfl : p = i := by omega
        exact hn2
     ·refine em [] trivial ⟨⟨rfl, _, rfl, cvt⟩, ⟨rfl, _, rfl, cvt⟩, ⟨rfl, _, rfl, cvt⟩, ⟨rfl, _, rfl, cvt⟩, trivial⟩ trivial
     ·(try simp only []); first | omega | grind
  ·have hil : i = a.length := by simp at h2; omega
   subst hil
   refine xt (sq (rg [] rfl ?_))
   refine WP.ret ?_
   change Fin ..
   exact fin1 hT rfl (clash_no hn).symm
theorem rclash_ac (f g : Bool) (a b : List Tch) : AC Tryz.prog T tysN 87 [tchs f a, tchs g b] [] (.bool (clashB a b)) [] := by
 refine AC_intro hT Tryz.func87 rfl rfl (Nat.le_of_ble_eq_true rfl) ?_
 refine WP.rowlen 0 rfl (fun hla => ?_)
 refine WP.rowlen 1 rfl (fun hlb => ?_)
 refine sq (rg [] rfl ?_)
 refine sq (sq (rg [] rfl ?_))
 refine bk ?_
 refine WP.loop (α := Nat) (fun i => mkSt [(0, tchs f a), (1, tchs g b), (5, .int i)] []) (fun i => i ≤ a.length ∧ ∀ p, p < i → ∀ q, q < b.length → clB (a.getD p tch0) (b.getD q tch0) = false) (fun i => a.length - i) ?_ ?_
 ·refine ⟨0, ?_, ?_⟩
  ·exact ⟨Nat.zero_le _, fun p hp => by omega⟩
  ·refine em [] trivial ⟨⟨rfl, _, rfl, cvt⟩, ⟨rfl, _, rfl, cvt⟩, ⟨rfl, _, rfl, cvt⟩, trivial⟩ trivial
 ·rintro i ⟨hi, hn⟩
  refine sq (sq (rg [] rfl ?_))
  refine cd rfl (fun h2 => ?_) (fun h2 => ?_)
  ·have hil : i < a.length := by simpa using h2
   refine sk (sq (bk (sq (rg [] rfl ?_))))
   refine bk ?_
   refine WP.loop (α := Nat) (fun k => mkSt [(0, tchs f a), (1, tchs g b), (5, .int i), (6, .int k)] []) (fun k => k ≤ b.length ∧ ∀ q, q < k → clB (a.getD i tch0) (b.getD q tch0) = false) (fun k => b.length - k) ?_ ?_
   ·refine ⟨0, ?_, ?_⟩
    ·exact ⟨Nat.zero_le _, fun p hp => by omega⟩
    ·refine em [] trivial ⟨⟨rfl, _, rfl, cvt⟩, ⟨rfl, _, rfl, cvt⟩, ⟨rfl, _, rfl, cvt⟩, ⟨rfl, _, rfl, cvt⟩, trivial⟩ trivial
   ·rintro k ⟨hk, hn2⟩
    refine sq (sq (rg [] rfl ?_))
    refine cd rfl (fun h5 => ?_) (fun h5 => ?_)
    ·have hkl : k < b.length := by simpa using h5
     refine sk (sq (bk (sq (drs [] rfl ?_ ?_))))
     ·simp [holdsC, under]
      exact ⟨⟨⟨⟨⟨⟨hil, hkl⟩, fun _ => hil⟩, fun _ => hkl⟩, fun _ _ => hil⟩, fun _ _ _ => hkl⟩, fun p q r => ⟨⟨p, q⟩, r⟩⟩
     refine cd rfl (fun h7 => ?_) (fun h7 => ?_)
     ·have hc : clB (a.getD i tch0) (b.getD k tch0) = true := by
        simp only [bor, band] at h7
        exact h7
      refine sq (rg [] rfl ?_)
      refine WP.ret ?_
      change Fin ..
      exact fin1 hT (by rfl) (clash_yes hil hkl hc).symm
     ·have hc : clB (a.getD i tch0) (b.getD k tch0) = false := by
        simp only [bor, band] at h7
        exact h7
      refine sk (rg [] rfl ?_)
      refine ⟨k + 1, ?_, ?_, ?_⟩
      ·refine ⟨hkl, fun q hq => ?_⟩
       rcases Nat.lt_or_ge q k with h | h
       · exact hn2 q h
       · obtain rfl : q = k := by omega
         exact hc
      ·refine em [] trivial ⟨⟨rfl, _, rfl, cvt⟩, ⟨rfl, _, rfl, cvt⟩, ⟨rfl, _, rfl, cvt⟩, ⟨rfl, _, rfl, cvt⟩, trivial⟩ trivial
      ·(try simp only []); first | omega | grind
    ·have hkl : k = b.length := by simp at h5; omega
     subst hkl
     refine xt (rg [] rfl ?_)
     refine ⟨i + 1, ?_, ?_, ?_⟩
     ·refine ⟨hil, fun p hp => ?_⟩
      rcases Nat.lt_or_ge p i with h | h
      · exact hn p h
      · obtain rfl : p = i := by omega
        exact hn2
     ·refine em [] trivial ⟨⟨rfl, _, rfl, cvt⟩, ⟨rfl, _, rfl, cvt⟩, ⟨rfl, _, rfl, cvt⟩, trivial⟩ trivial
     ·(try simp only []); first | omega | grind
  ·have hil : i = a.length := by simp at h2; omega
   subst hil
   refine xt (sq (rg [] rfl ?_))
   refine WP.ret ?_
   change Fin ..
   exact fin1 hT rfl (clash_no hn).symm
theorem dep_ac (x y : Evt) : AC Tryz.prog T tysN 76 [encE x, encE y] [] (.bool (depB x y)) [] := by
 refine AC_intro hT Tryz.func76 rfl rfl (Nat.le_of_ble_eq_true rfl) ?_
 refine sq (rg [] rfl ?_)
 refine sq ?_
 refine WP.ent (st' := mkSt [(2, .rp 73 (encE x)), (3, .rp 73 (encE y))] []) ?_ ?_
 ·refine em [(.s 2 0, 1), (.s 3 0, 1)] ⟨⟨_, rfl, Nat.le_refl _⟩, ⟨_, rfl, Nat.le_refl _⟩, trivial⟩ ⟨⟨rfl, _, rfl, conv_rpe rfl rfl (by decide) rfl rfl (noIds_E _)⟩, ⟨rfl, _, rfl, conv_rpe rfl rfl (by decide) rfl rfl (noIds_E _)⟩, trivial⟩ trivial
 refine rgs [CG.pure (tchs false (touchL x)), CG.pure (tchs false (touchL y)), CG.pure (.bool (depB x y))] rfl ?_ ?_
 ·exact ⟨⟨touched_ac x, touched_ac y⟩, clash_ac false false _ _⟩
 refine WP.ret ?_
 change Fin ..
 exact fin1 hT rfl rfl
theorem take_succ {α : Type} {l : List α} {i : Nat} {d : α} (h : i < l.length) : l.take (i + 1) = l.take i ++ [l.getD i d] := by
  rw [List.take_add_one]
  simp [List.getD_eq_getElem?_getD, h]
theorem okIds_tch (ids : List Id) (c : Tch) : okIds ids (encTch c) = true := okIds_agg (fun i hi => by match i, hi with | 0, _ | 1, _ | 2, _ => rfl)
theorem noIds_tch (c : Tch) : noIds (encTch c) = true := noIds_agg (fun i hi => by match i, hi with | 0, _ | 1, _ | 2, _ => rfl)
abbrev obT (l : List Tch) : Ob := cellsL 70 encTch tch0 l
theorem of_ac (x : Evt) : AC Tryz.prog T tysN 88 [encE x] [] (tchs false (touchL x)) [] := by
 refine AC_intro hT Tryz.func88 rfl rfl (Nat.le_of_ble_eq_true rfl) ?_
 refine sq (rg [] rfl ?_)
 refine sq (rg [] rfl ?_)
 refine sq (sq (rg [] rfl ?_))
 refine bk ?_
 refine WP.loop (α := Nat) (fun i => mkSt [(1, .rp 73 (encE x)), (3, .own (.s 21 0) i 0 i none), (4, .int i)] [(.s 21 0, obT ((touchL x).take i))]) (fun i => i ≤ clampN x.n) (fun i => 6 - i) ?_ ?_
 ·refine ⟨0, ?_, ?_⟩
  ·exact Nat.zero_le _
  ·refine em [(.s 1 0, 1)] ⟨⟨_, rfl, Nat.le_refl _⟩, trivial⟩ ⟨⟨rfl, _, rfl, conv_rpe rfl rfl (Nat.lt_succ_self 0) rfl rfl (noIds_E _)⟩, ⟨rfl, _, rfl, conv_nil_own⟩, ⟨rfl, _, rfl, cvt⟩, trivial⟩ ⟨⟨fun _ _ => okIds_tch _ _, .inr ⟨rfl, 70, _, rfl, by decide⟩⟩, trivial⟩
 ·rintro i hi
  have h6 := clampN_le x.n
  refine sq (sq (rg [] rfl ?_))
  refine cd rfl (fun h3 => ?_) (fun h3 => ?_)
  ·have hb : (i : Int) < 6 ∧ (i : Int) < x.n := by
     have e : (bif decide ((i : Int) < 6) then decide ((i : Int) < x.n) else false) = true := h3
     rw [band] at e
     simpa using e
   have hil : i < clampN x.n := by unfold clampN; split <;> (try split) <;> omega
   have hll : ((touchL x).take i).length = i := by rw [List.length_take, touchL_len]; omega
   refine sk (sq (bk (rgs [] rfl ?_ ?_)))
   ·have hbt : (T 70).bytes = 24 := rfl
    simp [holdsC, under, hbt, hll]
    omega
   refine rg [] rfl ?_
   refine ⟨i + 1, ?_, ?_, ?_⟩
   ·exact hil
   ·refine em [] trivial ⟨⟨rfl, _, rfl, cvt⟩, ⟨rfl, _, rfl, cvt⟩, ⟨rfl, _, rfl, cvt⟩, trivial⟩ ⟨ob_list (okIds_tch _) rfl rfl (by simp only [hll, List.length_take, touchL_len]; omega) rfl rfl (by rw [take_succ (d := tch0) (by rw [touchL_len]; exact hil)]; exact appL (l := (touchL x).take i) (x := (touchL x).getD i tch0) (z := (T 70).zero) hll.symm (by rw [touchL_get hil]; rfl) (fun q hq => rfl)), trivial⟩
   ·(try simp only []); first | omega | grind
  ·have hil : i = clampN x.n := by
     have e : (bif decide ((i : Int) < 6) then decide ((i : Int) < x.n) else false) = false := h3
     rw [band] at e
     simp at e
     have : ¬ i < clampN x.n := by unfold clampN; split <;> (try split) <;> omega
     omega
   have htk : (touchL x).take i = touchL x := List.take_of_length_le (by rw [touchL_len]; omega)
   refine xt (sq (rg [] rfl ?_))
   refine WP.ret ?_
   change Fin ..
   rw [htk]
   refine fin_mk hT [(.s 21 0, i)] (ts := [(2, tchs false (touchL x))]) (l := [tchs false (touchL x)]) ⟨⟨_, by rfl, by rw [touchL_len]; omega⟩, trivial⟩ ⟨⟨rfl, _, by rfl, ?_⟩, trivial⟩ trivial (by rfl) (by rfl) (by rfl)
   have hlen : (touchL x).length = i := by rw [touchL_len, hil]
   rw [tchs, hlen]
   exact conv_row (by rfl) (by exact hlen) rfl (fun h => by cases h) (by simp [lookF, idbeq_self]) (fun j hj => by rw [Nat.zero_add]; exact ⟨noIds_tch _, AEq.refl _⟩)
theorem rdep_ac (x y : Evt) : AC Tryz.prog T tysN 36 [encE x, encE y] [] (.bool (depB x y)) [] := by
 refine AC_intro hT Tryz.func36 rfl rfl (Nat.le_of_ble_eq_true rfl) ?_
 refine sq (rg [] rfl ?_)
 refine sq (drs [CG.pure (tchs false (touchL x)), CG.pure (tchs false (touchL y)), CG.pure (.bool (depB x y))] rfl ?_ ?_)
 ·exact ⟨⟨⟨⟨rfl, of_ac x⟩, rfl⟩, of_ac y⟩, rclash_ac false false _ _⟩
 refine WP.ret ?_
 change Fin ..
 exact fin1 hT rfl rfl
end Go.Ab


/- Clocks. -/
set_option autoImplicit false
set_option maxRecDepth 20000
set_option linter.unusedSimpArgs false
set_option linter.unusedVariables false
namespace Go.Ab
open Go.Proofs
def encClk (c : List Int) : AV := arrI 106 6 .i64 c
def zeroC : List Int := [0, 0, 0, 0, 0, 0]
def okC (c : List Int) : Prop := c.length = 6 ∧ ∀ i, i < 6 → 0 ≤ c.getD i 0 ∧ c.getD i 0 ≤ 1073741824
def clks (f : Bool) (l : List (List Int)) : AV := .row 106 f l.length (fun i => encClk (l.getD i zeroC))
def mx (x y : Int) : Int := if y > x then y else x
def mixC (a b : List Int) (i : Nat) : List Int := (List.range 6).map fun q => if q < i then mx (a.getD q 0) (b.getD q 0) else a.getD q 0
def joinC (a b : List Int) : List Int := mixC a b 6
def tickC (a : List Int) (g : Nat) : List Int := a.set g (a.getD g 0 + 1)
theorem mixC_len (a b : List Int) (i : Nat) : (mixC a b i).length = 6 := by simp [mixC]
theorem mixC_get {a b : List Int} {i q : Nat} (h : q < 6) : (mixC a b i).getD q 0 = if q < i then mx (a.getD q 0) (b.getD q 0) else a.getD q 0 := by simp [mixC, List.getD_eq_getElem?_getD, h]
theorem mixC_zero {a b : List Int} (h : a.length = 6) : mixC a b 0 = a := by
  refine List.ext_getElem (by simp [mixC, h]) (fun q h1 h2 => ?_)
  simp [mixC, List.getD_eq_getElem?_getD, h2]
theorem mixC_set {a b : List Int} {i : Nat} : (mixC a b i).set i (mx ((mixC a b i).getD i 0) (b.getD i 0)) = mixC a b (i + 1) := by
  refine List.ext_getElem (by simp [mixC]) (fun q h1 h2 => ?_)
  have hq : q < 6 := by simpa [mixC] using h2
  rw [List.getElem_set]
  by_cases e : i = q
  · subst e
    rw [if_pos rfl, mixC_get hq, if_neg (Nat.lt_irrefl _)]
    simp [mixC]
  · rw [if_neg e]
    simp only [mixC, List.getElem_map, List.getElem_range]
    by_cases h : q < i
    · rw [if_pos h, if_pos (by omega)]
    · rw [if_neg h, if_neg (by omega)]
theorem noIds_clk (c : List Int) : noIds (encClk c) = true := noIds_arrI
theorem okIds_clk (ids : List Id) (c : List Int) : okIds ids (encClk c) = true := okIds_agg (fun _ _ => rfl)
theorem greater_ac (x y : Int) : AC Tryz.prog T tysN 104 [.int x, .int y] [] (.int (mx x y)) [] := by
 refine AC_intro hT Tryz.func104 rfl rfl (Nat.le_of_ble_eq_true rfl) ?_
 refine sq (rg [] rfl ?_)
 refine sq (rg [] rfl ?_)
 refine WP.ret ?_
 change Fin ..
 exact finI hT (by rfl) rfl
theorem ccheck_ac (c : List Int) (h : okC c) : AC Tryz.prog T tysN 105 [encClk c] [] (.int 0) [] := by
 refine AC_intro hT Tryz.func105 rfl rfl (Nat.le_of_ble_eq_true rfl) ?_
 refine sq (rg [] rfl ?_)
 refine sq (sq (rg [] rfl ?_))
 refine bk ?_
 refine WP.loop (α := Nat) (fun i => mkSt [(5, encClk c), (6, .int i)] []) (fun i => i ≤ 6) (fun i => 6 - i) ?_ ?_
 ·refine ⟨0, ?_, ?_⟩
  ·exact Nat.zero_le _
  ·refine em [] trivial ⟨⟨rfl, _, rfl, cvt⟩, ⟨rfl, _, rfl, cvt⟩, trivial⟩ trivial
 ·rintro i hi
  refine sq (rg [] rfl ?_)
  refine sq ?_
  refine cd rfl (fun h2 => ?_) (fun h2 => ?_)
  ·have hil : i < 6 := by simp at h2; omega
   have hc := h.2 i hil
   refine sk (sq (bk (sq (rgs [] rfl ?_ ?_))))
   ·simp [holdsC, under]; omega
   refine sq (rg [] rfl ?_)
   refine cd rfl (fun h4 => ?_) (fun h4 => ?_)
   ·exfalso
    have e : (bif decide (c.getD (i : Int).toNat 0 < 0) then true else decide (c.getD (i : Int).toNat 0 > 1073741824)) = true := h4
    rw [bor, Bool.or_eq_true, decide_eq_true_eq, decide_eq_true_eq] at e
    rw [Int.toNat_natCast] at e
    omega
   ·refine sk (rg [] rfl ?_)
    refine ⟨i + 1, ?_, ?_, ?_⟩
    ·exact hil
    ·refine em [] trivial ⟨⟨rfl, _, rfl, cvt⟩, ⟨rfl, _, rfl, cvt⟩, trivial⟩ trivial
    ·(try simp only []); first | omega | grind
  ·refine xt (sq (rg [] rfl ?_))
   refine WP.ret ?_
   change Fin ..
   exact finI hT (by rfl) rfl
def clk2 (a b : List Int) : AV := clks true [a, b]
theorem call_ac (f : Bool) (l : List (List Int)) (h : ∀ c ∈ l, okC c) : AC Tryz.prog T tysN 102 [clks f l] [] (.int 0) [] := by
 refine AC_intro hT Tryz.func102 rfl rfl (Nat.le_of_ble_eq_true rfl) ?_
 refine WP.rowlen 0 rfl (fun hl => ?_)
 refine sq (rg [] rfl ?_)
 refine sq (sq (rg [] rfl ?_))
 refine bk ?_
 refine WP.loop (α := Nat) (fun i => mkSt [(6, clks f l), (7, .int l.length), (8, .int i)] []) (fun i => i ≤ l.length) (fun i => l.length - i) ?_ ?_
 ·refine ⟨0, ?_, ?_⟩
  ·exact Nat.zero_le _
  ·refine em [] trivial ⟨⟨rfl, _, rfl, cvt⟩, ⟨rfl, _, rfl, cvt⟩, ⟨rfl, _, rfl, cvt⟩, trivial⟩ trivial
 ·rintro i hi
  refine sq (rg [] rfl ?_)
  refine sq ?_
  refine cd rfl (fun h2 => ?_) (fun h2 => ?_)
  ·have hil : i < l.length := by simpa using h2
   have hok : okC (l.getD i zeroC) := h _ (by simp [List.getD_eq_getElem?_getD, hil])
   refine sk (sq (bk (sq (rgs [] rfl ?_ ?_))))
   ·simp [holdsC, under]; omega
   refine sq (rgs [CG.pure (.int 0)] rfl ?_ ?_)
   ·exact ⟨rfl, ccheck_ac _ hok⟩
   refine sq (rg [] rfl ?_)
   refine cd rfl (fun h5 => ?_) (fun h5 => ?_)
   ·exfalso
    simp at h5
   ·refine sk (rg [] rfl ?_)
    refine ⟨i + 1, ?_, ?_, ?_⟩
    ·exact hil
    ·refine em [] trivial ⟨⟨rfl, _, rfl, cvt⟩, ⟨rfl, _, rfl, cvt⟩, ⟨rfl, _, rfl, cvt⟩, trivial⟩ trivial
    ·(try simp only []); first | omega | grind
  ·refine xt (sq (rg [] rfl ?_))
   refine WP.ret ?_
   change Fin ..
   exact finI hT (by rfl) rfl
theorem each_ac (a b : List Int) (ha : a.length = 6) (hb : b.length = 6) : AC Tryz.prog T tysN 103 [encClk a, encClk b, .clo 104 []] [] (encClk (joinC a b)) [] := by
 refine AC_intro hT Tryz.func103 rfl rfl (Nat.le_of_ble_eq_true rfl) ?_
 refine sq (rg [] rfl ?_)
 refine sq (sq (rg [] rfl ?_))
 refine bk ?_
 refine WP.loop (α := Nat) (fun i => mkSt [(2, .clo 104 []), (3, .ptr (.s 3 0) 1 0 []), (4, .ptr (.s 4 0) 1 0 []), (6, .ptr (.s 6 0) 1 0 []), (8, .int i)] [(.s 3 0, .cells ⟨106, 1, fun _ => encClk (mixC a b i), 0⟩), (.s 4 0, .cells ⟨106, 1, fun _ => encClk b, 0⟩), (.s 6 0, .cells ⟨106, 1, fun _ => encClk zeroC, 0⟩)]) (fun i => i ≤ 6) (fun i => 6 - i) ?_ ?_
 ·refine ⟨0, ?_, ?_⟩
  ·exact Nat.zero_le _
  ·refine em [] trivial ⟨⟨rfl, _, rfl, cvt⟩, ⟨rfl, _, rfl, cvt⟩, ⟨rfl, _, rfl, cvt⟩, ⟨rfl, _, rfl, cvt⟩, ⟨rfl, _, rfl, cvt⟩, trivial⟩ ⟨⟨fun _ _ => okIds_clk _ _, .inl ⟨_, rfl, _, _, rfl, Nat.le_refl _, Nat.zero_le _, Nat.zero_le _, fun q hq => conv_eq (by rw [mixC_zero ha])⟩⟩, ⟨fun _ _ => okIds_clk _ _, .inl ⟨_, rfl, _, _, rfl, Nat.le_refl _, Nat.zero_le _, Nat.zero_le _, fun q hq => conv_eq rfl⟩⟩, ⟨fun _ _ => okIds_clk _ _, .inl ⟨_, rfl, _, _, rfl, Nat.le_refl _, Nat.zero_le _, Nat.zero_le _, fun q hq => conv_eq (agg_ext (fun i => by match i with | 0 | 1 | 2 | 3 | 4 | 5 => rfl | i + 6 => rfl))⟩⟩, trivial⟩
 ·rintro i hi
  refine sq (rg [] rfl ?_)
  refine sq ?_
  refine cd rfl (fun h2 => ?_) (fun h2 => ?_)
  ·have hil : i < 6 := by simp at h2; omega
   refine sk (sq (bk (sq (rg [] rfl ?_))))
   refine drs [CG.pure (.int (mx ((mixC a b i).getD i 0) (b.getD i 0)))] rfl ?_ ?_
   ·have hgr := greater_ac ((mixC a b i).getD i 0) (b.getD i 0)
    simp at hgr
    simp [holdsC, under, CG.pure]
    exact ⟨⟨by omega, hgr⟩, by omega⟩
   refine rg [] rfl ?_
   refine ⟨i + 1, ?_, ?_, ?_⟩
   ·exact hil
   ·refine em [] trivial ⟨⟨rfl, _, rfl, cvt⟩, ⟨rfl, _, rfl, cvt⟩, ⟨rfl, _, rfl, cvt⟩, ⟨rfl, _, rfl, cvt⟩, ⟨rfl, _, rfl, cvt⟩, trivial⟩ ⟨⟨fun _ _ => okIds_clk _ _, .inl ⟨_, rfl, _, _, rfl, Nat.le_refl _, Nat.zero_le _, Nat.zero_le _, fun q hq => by (obtain rfl : q = 0 := (by simp at hq; exact hq)); exact conv_eq ((arrI_put (l := mixC a b i) (i := i) (by rw [mixC_len]; exact hil)).trans (congrArg (arrI 106 6 .i64) mixC_set))⟩⟩, ⟨fun _ _ => okIds_clk _ _, .inl ⟨_, rfl, _, _, rfl, Nat.le_refl _, Nat.zero_le _, Nat.zero_le _, fun q hq => conv_eq rfl⟩⟩, ⟨fun _ _ => okIds_clk _ _, .inl ⟨_, rfl, _, _, rfl, Nat.le_refl _, Nat.zero_le _, Nat.zero_le _, fun q hq => conv_eq rfl⟩⟩, trivial⟩
   ·(try simp only []); first | omega | grind
  ·have hil : i = 6 := by simp at h2; omega
   subst hil
   refine xt (sq (rg [] rfl ?_))
   refine WP.ret ?_
   change Fin ..
   refine fin_mk hT [(.s 6 0, 1)] (ts := [(6, .rp 106 (encClk (joinC a b)))]) (l := [encClk (joinC a b)]) ⟨⟨_, rfl, Nat.le_refl _⟩, trivial⟩ ⟨⟨rfl, _, rfl, ?_⟩, trivial⟩ trivial rfl rfl rfl
   exact conv_rpe rfl rfl (by decide) rfl rfl (noIds_clk _)
theorem join_ac (a b : List Int) (ha : okC a) (hb : okC b) : AC Tryz.prog T tysN 59 [encClk a, encClk b] [] (.tup [encClk (joinC a b), .int 0]) [] := by
 refine AC_intro hT Tryz.func59 rfl rfl (Nat.le_of_ble_eq_true rfl) ?_
 refine sq (rg [] rfl ?_)
 refine sq (sq (rgs [CG.pure (.int 0)] rfl ?_ ?_))
 ·have := call_ac true [a, b] (fun c hc => by simp at hc; rcases hc with rfl | rfl <;> assumption)
  simp [holdsC, under, CG.pure]
  refine AC.conv hT this ?_
  exact ⟨_, _, rfl, conv_rowL (fun h => h) (fun j hj => by match j, hj with | 0, _ => rfl | 1, _ => rfl), rfl⟩
 refine sq (rg [] rfl ?_)
 refine cd rfl (fun h2 => ?_) (fun h2 => ?_)
 ·exfalso
  simp at h2
 ·refine sk (sq (rgs [CG.pure (encClk (joinC a b))] rfl ?_ ?_))
  ·simp [holdsC, under, CG.pure]
   exact each_ac a b ha.1 hb.1
  refine WP.ret ?_
  change Fin ..
  refine fin_mk hT [(.s 4 0, 1)] (ts := [(4, .rp 106 (encClk (joinC a b))), (5, .int 0)]) (l := [encClk (joinC a b), .int 0]) ⟨⟨_, rfl, Nat.le_refl _⟩, trivial⟩ ⟨⟨rfl, _, rfl, ?_⟩, ⟨rfl, _, rfl, conv_eq rfl⟩, trivial⟩ trivial rfl rfl rfl
  exact conv_rpe rfl rfl (by decide) rfl rfl (noIds_clk _)
theorem tick_ac (a : List Int) (g : Int) (ha : okC a) (hg : 0 ≤ g ∧ g < 6) (hm : a.getD g.toNat 0 < 1073741824) : AC Tryz.prog T tysN 60 [encClk a, .int g] [] (.tup [encClk (tickC a g.toNat), .int 0]) [] := by
 refine AC_intro hT Tryz.func60 rfl rfl (Nat.le_of_ble_eq_true rfl) ?_
 refine sq (rg [] rfl ?_)
 refine sq (sq (rgs [CG.pure (.int 0)] rfl ?_ ?_))
 ·simp [holdsC, under, CG.pure]
  exact ccheck_ac a ha
 refine sq (rg [] rfl ?_)
 refine cd rfl (fun h2 => ?_) (fun h2 => ?_)
 ·exfalso
  simp at h2
 ·refine sk (sq (sq (rg [] rfl ?_)))
  refine cd rfl (fun h4 => ?_) (fun h4 => ?_)
  ·exfalso
   have e : (bif decide (g < 0) then true else decide (g ≥ 6)) = true := h4
   rw [bor, Bool.or_eq_true, decide_eq_true_eq, decide_eq_true_eq] at e
   omega
  ·refine sk (sq (sq (rgs [] rfl ?_ ?_)))
   ·simp [holdsC, under]
    omega
   refine cd rfl (fun h6 => ?_) (fun h6 => ?_)
   ·exfalso
    have e : (a.getD g.toNat 0 == 1073741824) = true := h6
    simp at e
    simp at hm
    omega
   ·refine sk (sq (rgs [] rfl ?_ ?_))
    ·simp [holdsC, under]
     omega
    refine sq (rg [] rfl ?_)
    refine WP.ret ?_
    change Fin ..
    have ha6 := ha.2 g.toNat (by omega)
    have hw : IntKind.i64.wrap (a.getD g.toNat 0 + 1) = a.getD g.toNat 0 + 1 := wrap_id (by omega) (by omega)
    refine fin_mk hT [(.s 4 0, 1)] (ts := [(4, .rp 106 (encClk (tickC a g.toNat))), (5, .int 0)]) (l := [encClk (tickC a g.toNat), .int 0]) ⟨⟨_, rfl, Nat.le_refl _⟩, trivial⟩ ⟨⟨rfl, _, rfl, ?_⟩, ⟨rfl, _, rfl, conv_eq rfl⟩, trivial⟩ trivial rfl rfl rfl
    refine conv_rpe rfl rfl (by decide) rfl ?_ (noIds_clk _)
    refine (arrI_put (l := a) (i := g.toNat) (by rw [ha.1]; omega)).trans ?_
    rw [hw]
    rfl
end Go.Ab


/- The clocks of a trace. -/
set_option autoImplicit false
set_option maxRecDepth 20000
set_option linter.unusedSimpArgs false
set_option linter.unusedVariables false
namespace Go.Ab
open Go.Proofs
def goN (t : List Evt) (i : Nat) : Nat := (eAt t i).go.toNat
def accL (L : List (List Int)) (t : List Evt) (i : Nat) : Nat → List Int
  | 0 => zeroC
  | j + 1 => if depB (eAt t j) (eAt t i) then joinC (accL L t i j) (L.getD j zeroC) else accL L t i j
def clkTo (t : List Evt) : Nat → List (List Int)
  | 0 => []
  | i + 1 => clkTo t i ++ [tickC (accL (clkTo t i) t i i) (goN t i)]
def clkOf (t : List Evt) (i : Nat) : List Int := (clkTo t (i + 1)).getD i zeroC
def accC (t : List Evt) (i j : Nat) : List Int := accL (clkTo t i) t i j
theorem clkTo_len (t : List Evt) : ∀ i, (clkTo t i).length = i
  | 0 => rfl
  | i + 1 => by simp [clkTo, clkTo_len t i]
theorem clkTo_get (t : List Evt) : ∀ {i q : Nat}, q < i → (clkTo t i).getD q zeroC = clkOf t q
  | i + 1, q, h => by
    by_cases e : q = i
    · subst e; rfl
    · have hq : q < i := by omega
      rw [← clkTo_get t hq, clkTo]
      simp only [List.getD_eq_getElem?_getD, List.getElem?_append_left (show q < (clkTo t i).length by rw [clkTo_len]; exact hq)]
theorem clkOf_eq (t : List Evt) (i : Nat) : clkOf t i = tickC (accC t i i) (goN t i) := by
  rw [clkOf, clkTo]
  simp [List.getD_eq_getElem?_getD, clkTo_len, accC]
theorem accC_succ (t : List Evt) {i j : Nat} (h : j < i) : accC t i (j + 1) = if depB (eAt t j) (eAt t i) then joinC (accC t i j) (clkOf t j) else accC t i j := by
  rw [accC, accL, clkTo_get t h]; rfl
/-- Numbers of clocks are no greater than .. -/
def leC (c : List Int) (n : Int) : Prop := c.length = 6 ∧ ∀ q, q < 6 → 0 ≤ c.getD q 0 ∧ c.getD q 0 ≤ n
theorem leC.ok {c : List Int} {n : Int} (h : leC c n) (hn : n ≤ 1073741824) : okC c := ⟨h.1, fun q hq => ⟨(h.2 q hq).1, Int.le_trans (h.2 q hq).2 hn⟩⟩
theorem leC.mono {c : List Int} {n m : Int} (h : leC c n) (hn : n ≤ m) : leC c m := ⟨h.1, fun q hq => ⟨(h.2 q hq).1, Int.le_trans (h.2 q hq).2 hn⟩⟩
theorem leC_zero {n : Int} (h : 0 ≤ n) : leC zeroC n := ⟨rfl, fun q hq => by match q, hq with | 0, _ | 1, _ | 2, _ | 3, _ | 4, _ | 5, _ => exact ⟨Int.le_refl _, h⟩⟩
theorem joinC_get {a b : List Int} {q : Nat} (h : q < 6) : (joinC a b).getD q 0 = mx (a.getD q 0) (b.getD q 0) := by rw [joinC, mixC_get h, if_pos h]
theorem leC_join {a b : List Int} {n : Int} (ha : leC a n) (hb : leC b n) : leC (joinC a b) n := by
  refine ⟨mixC_len _ _ _, fun q hq => ?_⟩
  rw [joinC_get hq, mx]
  have h1 := ha.2 q hq
  have h2 := hb.2 q hq
  split <;> omega
theorem tickC_get {a : List Int} {g q : Nat} (ha : a.length = 6) (hg : g < 6) : (tickC a g).getD q 0 = a.getD q 0 + if q = g then 1 else 0 := by
  by_cases e : q = g
  · subst e; simp [tickC, List.getD_eq_getElem?_getD, ha, hg]
  · simp only [tickC, List.getD_eq_getElem?_getD, if_neg e, Int.add_zero]
    rw [List.getElem?_set_ne (Ne.symm e)]
theorem leC_tick {a : List Int} {n : Int} {g : Nat} (ha : leC a n) (hg : g < 6) : leC (tickC a g) (n + 1) := by
  refine ⟨by simp [tickC, ha.1], fun q hq => ?_⟩
  rw [tickC_get ha.1 hg]
  have := ha.2 q hq
  split <;> omega
def GoOK (t : List Evt) : Prop := t.length ≤ 256 ∧ ∀ i, i < t.length → 0 ≤ (eAt t i).go ∧ (eAt t i).go < 6
theorem chk_right {t : List Evt} (e : chkE t = 0) : GoOK t := by
  unfold chkE at e
  by_cases h1 : t.length > 256
  · rw [if_pos h1] at e; cases e
  · rw [if_neg h1] at e
    by_cases h2 : t.any badE = true
    · rw [if_pos h2] at e; cases e
    · refine ⟨by omega, fun i hi => ?_⟩
      have h3 : badE (eAt t i) = false := by
        cases hz : badE (eAt t i) with
        | false => rfl
        | true => exact absurd (anyE_yes hi hz) h2
      simp only [badE, Bool.not_eq_false', rightE, Bool.and_eq_true, decide_eq_true_eq] at h3
      omega
theorem goN_lt {t : List Evt} (h : GoOK t) {i : Nat} (hi : i < t.length) : goN t i < 6 := by
  have := h.2 i hi
  unfold goN; omega
theorem clk_le {t : List Evt} (h : GoOK t) : ∀ i, i < t.length → leC (clkOf t i) ((i : Int) + 1) ∧ ∀ j, j ≤ i → leC (accC t i j) i := by
  intro i
  induction i using Nat.strongRecOn with
  | _ i ih =>
    intro hi
    have hacc : ∀ j, j ≤ i → leC (accC t i j) i := by
      intro j
      induction j with
      | zero => intro _; exact leC_zero (by omega)
      | succ j ihj =>
        intro hj
        rw [accC_succ t (by omega)]
        split
        · exact leC_join (ihj (by omega)) ((ih j (by omega) (by omega)).1.mono (by omega))
        · exact ihj (by omega)
    refine ⟨?_, hacc⟩
    rw [clkOf_eq]
    exact leC_tick (hacc i (Nat.le_refl _)) (goN_lt h hi)
def outC (t : List Evt) (i : Nat) (acc : List Int) (q : Nat) : List Int := if q < i then clkOf t q else if q = i then acc else zeroC
theorem outC_lt {t : List Evt} {i q : Nat} {acc : List Int} (h : q < i) : outC t i acc q = clkOf t q := if_pos h
theorem outC_at {t : List Evt} {i : Nat} {acc : List Int} : outC t i acc i = acc := by simp [outC]
theorem outC_set {t : List Evt} {i : Nat} {acc acc' : List Int} (q : Nat) : (bif Nat.beq q i then encClk acc' else encClk (outC t i acc q)) = encClk (outC t i acc' q) := by
  by_cases e : q = i
  · subst e; rw [Nat.beq_refl, cond_true, outC_at]
  · rw [nbeq_ne e, cond_false]; simp [outC, e]
theorem outC_next {t : List Evt} {i : Nat} (q : Nat) : outC t i (clkOf t i) q = outC t (i + 1) zeroC q := by
  unfold outC
  by_cases h1 : q < i
  · rw [if_pos h1, if_pos (by omega)]
  · rw [if_neg h1]
    by_cases h2 : q = i
    · subst h2; simp
    · rw [if_neg h2, if_neg (by omega)]; split <;> rfl
theorem clocks_ac (g : Bool) (t : List Evt) (h : GoOK t) : AC Tryz.prog T tysN 166 [evts g t] [] (clks false (clkTo t t.length)) [] := by
 refine AC_intro hT Tryz.func166 rfl rfl (Nat.le_of_ble_eq_true rfl) ?_
 have h256 := h.1
 refine sq (rg [] rfl ?_)
 refine sq (rgs [] rfl ?_ ?_)
 ·have hbt : (T 106).bytes = 48 := rfl
  simp [holdsC, under, hbt]
  omega
 refine sq (sq (rg [] rfl ?_))
 refine bk ?_
 refine WP.loop (α := Nat) (fun i => mkSt [(0, evts g t), (3, .own (.s 8 0) t.length 0 t.length none), (10, .int t.length), (11, .int i)] [(.s 8 0, .cells ⟨106, t.length, fun q => encClk (outC t i zeroC q), 0⟩)]) (fun i => i ≤ t.length) (fun i => t.length - i) ?_ ?_
 ·refine ⟨0, ?_, ?_⟩
  ·exact Nat.zero_le _
  ·refine em [] trivial ⟨⟨rfl, _, rfl, cvt⟩, ⟨rfl, _, rfl, cvt⟩, ⟨rfl, _, rfl, cvt⟩, ⟨rfl, _, rfl, cvt⟩, trivial⟩ ⟨⟨fun _ _ => okIds_clk _ _, .inl ⟨_, rfl, _, _, rfl, Nat.le_refl _, Nat.zero_le _, Nat.zero_le _, fun q hq => conv_eq (by have e : outC t 0 zeroC q = zeroC := (by unfold outC; simp); rw [e]; exact agg_ext (fun i => by match i with | 0 | 1 | 2 | 3 | 4 | 5 => rfl | i + 6 => rfl))⟩⟩, trivial⟩
 ·rintro i hi
  refine sq (rg [] rfl ?_)
  refine sq ?_
  refine cd rfl (fun h3 => ?_) (fun h3 => ?_)
  ·have hil : i < t.length := by simpa using h3
   have hle := clk_le h i hil
   have hgo := h.2 i hil
   refine sk (sq (bk (sq (rg [] rfl ?_))))
   refine sq (sq (rg [] rfl ?_))
   refine bk ?_
   refine WP.loop (α := Nat) (fun j => mkSt [(0, evts g t), (3, .own (.s 8 0) t.length 0 t.length none), (4, .int i), (10, .int t.length), (11, .int i), (14, .int i), (15, .int j)] [(.s 8 0, .cells ⟨106, t.length, fun q => encClk (outC t i (accC t i j) q), 0⟩)]) (fun j => j ≤ i) (fun j => i - j) ?_ ?_
   ·refine ⟨0, ?_, ?_⟩
    ·exact Nat.zero_le _
    ·refine em [] trivial ⟨⟨rfl, _, rfl, cvt⟩, ⟨rfl, _, rfl, cvt⟩, ⟨rfl, _, rfl, cvt⟩, ⟨rfl, _, rfl, cvt⟩, ⟨rfl, _, rfl, cvt⟩, ⟨rfl, _, rfl, cvt⟩, ⟨rfl, _, rfl, cvt⟩, trivial⟩ ⟨⟨fun _ _ => okIds_clk _ _, .inl ⟨_, rfl, _, _, rfl, Nat.le_refl _, Nat.zero_le _, Nat.zero_le _, fun q hq => conv_eq rfl⟩⟩, trivial⟩
   ·rintro j hj
    refine sq (rg [] rfl ?_)
    refine sq ?_
    refine cd rfl (fun h6 => ?_) (fun h6 => ?_)
    ·have hjl : j < i := by simpa using h6
     refine sk (sq (bk (sq (rg [] rfl ?_))))
     refine sq (drs [CG.pure (.bool (depB (eAt t j) (eAt t i)))] rfl ?_ ?_)
     ·have hd := dep_ac (eAt t j) (eAt t i)
      simp [holdsC, under, CG.pure]
      exact ⟨⟨by omega, by omega⟩, hd⟩
     refine cd rfl (fun h8 => ?_) (fun h8 => ?_)
     ·have hdp : depB (eAt t j) (eAt t i) = true := h8
      refine drs [CG.pure (.tup [encClk (joinC (accC t i j) (clkOf t j)), .int 0])] rfl ?_ ?_
      ·have hjn := join_ac (accC t i j) (clkOf t j) ((hle.2 j (by omega)).ok (by omega)) ((clk_le h j (by omega)).1.ok (by omega))
       have e1 : outC t i (accC t i j) (i : Int).toNat = accC t i j := outC_at
       have e2 : outC t i (accC t i j) (j : Int).toNat = clkOf t j := outC_lt hjl
       have hjn2 : AC Tryz.prog T tysN 59 [encClk (outC t i (accC t i j) (i : Int).toNat), encClk (outC t i (accC t i j) (j : Int).toNat)] [] (.tup [encClk (joinC (accC t i j) (clkOf t j)), .int 0]) [] := by rw [e1, e2]; exact hjn
       simp [holdsC, under, CG.pure]
       exact ⟨⟨⟨by omega, by omega⟩, hjn2⟩, by omega⟩
      refine rg [] rfl ?_
      refine ⟨j + 1, ?_, ?_, ?_⟩
      ·exact hjl
      ·refine em [] trivial ⟨⟨rfl, _, rfl, cvt⟩, ⟨rfl, _, rfl, cvt⟩, ⟨rfl, _, rfl, cvt⟩, ⟨rfl, _, rfl, cvt⟩, ⟨rfl, _, rfl, cvt⟩, ⟨rfl, _, rfl, cvt⟩, ⟨rfl, _, rfl, cvt⟩, trivial⟩ ⟨⟨fun _ _ => okIds_clk _ _, .inl ⟨_, rfl, _, _, rfl, Nat.le_refl _, Nat.zero_le _, Nat.zero_le _, fun q hq => conv_eq ((outC_set (i := i) (acc' := joinC (accC t i j) (clkOf t j)) q).trans (by rw [accC_succ t hjl, if_pos hdp]))⟩⟩, trivial⟩
      ·(try simp only []); first | omega | grind
     ·have hdp : depB (eAt t j) (eAt t i) = false := h8
      refine sk (rg [] rfl ?_)
      refine ⟨j + 1, ?_, ?_, ?_⟩
      ·exact hjl
      ·refine em [] trivial ⟨⟨rfl, _, rfl, cvt⟩, ⟨rfl, _, rfl, cvt⟩, ⟨rfl, _, rfl, cvt⟩, ⟨rfl, _, rfl, cvt⟩, ⟨rfl, _, rfl, cvt⟩, ⟨rfl, _, rfl, cvt⟩, ⟨rfl, _, rfl, cvt⟩, trivial⟩ ⟨⟨fun _ _ => okIds_clk _ _, .inl ⟨_, rfl, _, _, rfl, Nat.le_refl _, Nat.zero_le _, Nat.zero_le _, fun q hq => conv_eq (by rw [accC_succ t hjl, hdp]; rfl)⟩⟩, trivial⟩
      ·(try simp only []); first | omega | grind
    ·have hjl : j = i := by simp at h6; omega
     subst hjl
     refine xt (drs [CG.pure (.tup [encClk (clkOf t j), .int 0])] rfl ?_ ?_)
     ·have hjn := tick_ac (accC t j j) (eAt t j).go ((hle.2 j (Nat.le_refl _)).ok (by omega)) hgo (by have := ((hle.2 j (Nat.le_refl _)).2 (eAt t j).go.toNat (by omega)).2; omega)
      have e1 : outC t j (accC t j j) (j : Int).toNat = accC t j j := outC_at
      have hjn2 : AC Tryz.prog T tysN 60 [encClk (outC t j (accC t j j) (j : Int).toNat), .int (eAt t j).go] [] (.tup [encClk (clkOf t j), .int 0]) [] := by rw [e1, clkOf_eq]; exact hjn
      simp [holdsC, under, CG.pure]
      exact ⟨⟨by omega, hjn2⟩, by omega⟩
     refine rg [] rfl ?_
     refine ⟨j + 1, ?_, ?_, ?_⟩
     ·exact hil
     ·refine em [] trivial ⟨⟨rfl, _, rfl, cvt⟩, ⟨rfl, _, rfl, cvt⟩, ⟨rfl, _, rfl, cvt⟩, ⟨rfl, _, rfl, cvt⟩, trivial⟩ ⟨⟨fun _ _ => okIds_clk _ _, .inl ⟨_, rfl, _, _, rfl, Nat.le_refl _, Nat.zero_le _, Nat.zero_le _, fun q hq => conv_eq ((outC_set (i := j) (acc' := clkOf t j) q).trans (by rw [outC_next]))⟩⟩, trivial⟩
     ·(try simp only []); first | omega | grind
  ·have hil : i = t.length := by simp at h3; omega
   subst hil
   refine xt (sq (rg [] rfl ?_))
   refine WP.ret ?_
   change Fin ..
   refine fin_mk hT [(.s 8 0, t.length)] (ts := [(2, clks false (clkTo t t.length))]) (l := [clks false (clkTo t t.length)]) ⟨⟨_, rfl, Nat.le_refl _⟩, trivial⟩ ⟨⟨rfl, _, rfl, ?_⟩, trivial⟩ trivial rfl rfl rfl
   rw [clks, clkTo_len]
   exact conv_row rfl rfl rfl (fun h => by cases h) (by simp [lookF, idbeq_self]) (fun q hq => by rw [Nat.zero_add]; exact ⟨noIds_clk _, .of_eq (by rw [clkTo_get t hq]; show encClk (outC t t.length zeroC q) = _; rw [outC_lt hq])⟩)
end Go.Ab


/- Tables of a trace; what happens before what. -/
set_option autoImplicit false
set_option maxRecDepth 20000
set_option linter.unusedSimpArgs false
set_option linter.unusedVariables false
namespace Go.Ab
open Go.Proofs
def encTab (t : List Evt) : AV := stru 147 [evts false t, clks false (clkTo t t.length)]
def tE (t : List Evt) (e : Int) : List Evt := if e = 0 then t else []
def cE (t : List Evt) (e : Int) : List (List Int) := if e = 0 then clkTo t t.length else []
def tabF (t : List Evt) (e : Int) : AV := stru 147 [evts false (tE t e), clks false (cE t e)]
theorem tabF_zero (t : List Evt) : tabF t 0 = encTab t := rfl
theorem tabF_bad {t : List Evt} {e : Int} (h : e ≠ 0) : tabF t e = stru 147 [evts false [], clks false []] := by simp only [tabF, tE, cE, if_neg h]
def askE (t : List Evt) (l : List Int) : Int := if chkE t ≠ 0 then chkE t else if l.any (fun i => decide (i < 0) || decide (i ≥ (t.length : Int))) then 1 else 0
def befB (t : List Evt) (i j : Nat) : Bool := decide (i < j) && decide ((clkOf t i).getD (goN t i) 0 ≤ (clkOf t j).getD (goN t i) 0)
theorem noIds_tab (t : List Evt) : noIds (encTab t) = true := noIds_agg (fun i hi => by match i, hi with | 0, _ | 1, _ => rfl)
theorem noIds_tabF (t : List Evt) (e : Int) : noIds (tabF t e) = true := noIds_agg (fun i hi => by match i, hi with | 0, _ | 1, _ => rfl)
theorem okIds_tabF (ids : List Id) (t : List Evt) (e : Int) : okIds ids (tabF t e) = true := okIds_agg (fun i hi => by match i, hi with | 0, _ | 1, _ => rfl)
theorem at_nil (x : AV) : x.at [] = x := by cases x <;> rfl
theorem fin_tab {nt : Nat} {st : St} {t : List Evt} {e : Int} {B : Blk} (h4 : st.t 4 = some (.always, .ptr (.s 4 0) 1 0 [])) (h5 : st.t 5 = some (.always, .int e)) (hm : st.m (.s 4 0) = some (.cells B)) (hty : B.ty = 147) (hn1 : B.n = 1) (hfz : B.fz = 0) (hy : Conv st.m (fun id => lookF id []) T (B.get 0) (tabF t e)) : Fin T tysN nt 0 [.cell 4 147, .tmp 5] (.tup [tabF t e, .int e]) [] st := by
  obtain ⟨ty, n, get, fz⟩ := B
  simp only at hty hn1 hfz hy
  subst hty hn1 hfz
  refine Fin.ent (Ent.mk (P := Tryz.prog) hT [] (ts := [(4, .ptr (.s 4 0) 1 0 []), (5, .int e)]) (ms := [(.s 4 0, .cells ⟨147, 1, fun _ => tabF t e, 0⟩)]) trivial ⟨⟨rfl, _, h4, conv_eq rfl⟩, ⟨rfl, _, h5, conv_eq rfl⟩, trivial⟩ ⟨⟨fun _ _ => okIds_tabF _ _ _, .inl ⟨_, hm, _, _, rfl, Nat.le_refl _, Nat.zero_le _, Nat.zero_le _, fun q hq => ?_⟩⟩, trivial⟩ rfl) ?_
  · obtain rfl : q = 0 := by simp at hq; exact hq
    exact hy
  · refine fin_mk hT [(.s 4 0, 1)] (ts := [(4, .rp 147 (tabF t e)), (5, .int e)]) (l := [tabF t e, .int e]) ⟨⟨_, rfl, Nat.le_refl _⟩, trivial⟩ ⟨⟨rfl, _, rfl, ?_⟩, ⟨rfl, _, rfl, conv_eq rfl⟩, trivial⟩ trivial rfl rfl rfl
    exact conv_rpe rfl rfl (by simp [lookF, idbeq_self]) rfl rfl (noIds_tabF t e)
theorem conv_tz {m : Id → Option Ob} {F : Id → Nat} {t : List Evt} {e : Int} (h : e ≠ 0) : Conv m F T (stru 147 [.nils, .nils]) (tabF t e) := by
  rw [tabF_bad h]
  exact ⟨_, rfl, fun i hi => by match i, hi with | 0, _ => exact conv_nil_row (by decide) | 1, _ => exact conv_nil_row (by decide)⟩
theorem any_no {t : List Evt} {l : List Int} (h : ∀ q, q < l.length → 0 ≤ l.getD q 0 ∧ l.getD q 0 < t.length) : l.any (fun i => decide (i < 0) || decide (i ≥ (t.length : Int))) = false := by
  rw [List.any_eq_false]
  intro x hx
  obtain ⟨q, hq, rfl⟩ := List.getElem_of_mem hx
  have := h q hq
  simp [List.getD_eq_getElem?_getD, hq] at this
  simp
  omega
theorem any_yes {t : List Evt} {l : List Int} {q : Nat} (hq : q < l.length) (h : l.getD q 0 < 0 ∨ l.getD q 0 ≥ t.length) : l.any (fun i => decide (i < 0) || decide (i ≥ (t.length : Int))) = true := by
  rw [List.any_eq_true]
  refine ⟨l[q], List.getElem_mem hq, ?_⟩
  simp [List.getD_eq_getElem?_getD, hq] at h
  simpa using h
theorem asked_ac (g f : Bool) (t : List Evt) (l : List Int) : AC Tryz.prog T tysN 122 [evts g t, ints f l] [] (.tup [tabF t (askE t l), .int (askE t l)]) [] := by
 refine AC_intro hT Tryz.func122 rfl rfl (Nat.le_of_ble_eq_true rfl) ?_
 refine WP.rowlen 0 rfl (fun hl0 => ?_)
 refine WP.rowlen 1 rfl (fun hl1 => ?_)
 refine sq (rg [] rfl ?_)
 refine sq (sq (rgs [CG.pure (.int (chkE t))] rfl ?_ ?_))
 ·exact dcheck_ac g t
 refine sq (rg [] rfl ?_)
 refine cd rfl (fun h2 => ?_) (fun h2 => ?_)
 ·have hbad : chkE t ≠ 0 := by simpa using h2
  have he : askE t l = chkE t := if_pos hbad
  refine sq (rg [] rfl ?_)
  refine WP.ret ?_
  change Fin ..
  rw [he]
  exact fin_tab rfl rfl rfl rfl rfl rfl (conv_tz hbad)
 ·have hz : chkE t = 0 := by simpa using h2
  have hok := chk_right hz
  refine sk (sq (sq (rg [] rfl ?_)))
  refine bk ?_
  refine WP.loop (α := Nat) (fun i => mkSt [(0, evts g t), (4, .ptr (.s 4 0) 1 0 []), (15, ints f l), (16, .int l.length), (17, .int i)] [(.s 4 0, .cells ⟨147, 1, fun _ => stru 147 [.nils, .nils], 0⟩)]) (fun i => i ≤ l.length ∧ ∀ q, q < i → 0 ≤ l.getD q 0 ∧ l.getD q 0 < t.length) (fun i => l.length - i) ?_ ?_
  ·refine ⟨0, ?_, ?_⟩
   ·exact ⟨Nat.zero_le _, fun q hq => by omega⟩
   ·refine em [] trivial ⟨⟨rfl, _, rfl, cvt⟩, ⟨rfl, _, rfl, cvt⟩, ⟨rfl, _, rfl, cvt⟩, ⟨rfl, _, rfl, cvt⟩, ⟨rfl, _, rfl, cvt⟩, trivial⟩ ⟨obs rfl, trivial⟩
  ·rintro i ⟨hi, hn⟩
   refine sq (rg [] rfl ?_)
   refine sq ?_
   refine cd rfl (fun h5 => ?_) (fun h5 => ?_)
   ·have hil : i < l.length := by simpa using h5
    refine sk (sq (bk (sq (rgs [] rfl ?_ ?_))))
    ·simp [holdsC, under]; omega
    refine sq (rg [] rfl ?_)
    refine cd rfl (fun h7 => ?_) (fun h7 => ?_)
    ·have hb : l.getD i 0 < 0 ∨ l.getD i 0 ≥ t.length := by
       have e : (bif decide (l.getD (i : Int).toNat 0 < 0) then true else decide (l.getD (i : Int).toNat 0 ≥ (t.length : Int))) = true := h7
       rw [bor, Bool.or_eq_true, decide_eq_true_eq, decide_eq_true_eq] at e
       exact e
     have he : askE t l = 1 := by rw [askE, if_neg (by simp [hz]), any_yes hil hb, if_pos rfl]
     refine sq (rg [] rfl ?_)
     refine WP.ret ?_
     change Fin ..
     rw [he]
     exact fin_tab rfl rfl rfl rfl rfl rfl (conv_tz (by decide))
    ·have hb : 0 ≤ l.getD i 0 ∧ l.getD i 0 < t.length := by
       have e : (bif decide (l.getD (i : Int).toNat 0 < 0) then true else decide (l.getD (i : Int).toNat 0 ≥ (t.length : Int))) = false := h7
       rw [bor, Bool.or_eq_false_iff, decide_eq_false_iff_not, decide_eq_false_iff_not] at e
       simp only [Int.toNat_natCast] at e
       omega
     refine sk (rg [] rfl ?_)
     refine ⟨i + 1, ?_, ?_, ?_⟩
     ·refine ⟨hil, fun q hq => ?_⟩
      rcases Nat.lt_or_ge q i with h | h
      · exact hn q h
      · obtain rfl : q = i := by omega
        exact hb
     ·refine em [] trivial ⟨⟨rfl, _, rfl, cvt⟩, ⟨rfl, _, rfl, cvt⟩, ⟨rfl, _, rfl, cvt⟩, ⟨rfl, _, rfl, cvt⟩, ⟨rfl, _, rfl, cvt⟩, trivial⟩ ⟨obs rfl, trivial⟩
     ·(try simp only []); first | omega | grind
   ·have hil : i = l.length := by simp at h5; omega
    subst hil
    have he : askE t l = 0 := by rw [askE, if_neg (by simp [hz]), any_no hn]; rfl
    refine xt (sq (rgs [CG.pure (clks false (clkTo t t.length))] rfl ?_ ?_))
    ·exact ⟨clocks_ac g t hok, rfl, Nat.le_refl _⟩
    refine WP.ret ?_
    change Fin ..
    rw [he]
    refine fin_tab rfl rfl rfl rfl rfl rfl ?_
    exact ⟨_, rfl, fun i hi => by match i, hi with | 0, _ => exact conv_rowL (fun h => by cases h) (fun j hj => rfl) | 1, _ => exact conv_eq rfl⟩
theorem before_ac (t : List Evt) (h : GoOK t) (i j : Nat) (hi : i < t.length) (hj : j < t.length) : AC Tryz.prog T tysN 90 [encTab t, .int i, .int j] [] (.bool (befB t i j)) [] := by
 refine AC_intro hT Tryz.func90 rfl rfl (Nat.le_of_ble_eq_true rfl) ?_
 have hgo := h.2 i hi
 refine sq (rg [] rfl ?_)
 refine sq (rgs [] rfl ?_ ?_)
 ·simp [holdsC, under]
  omega
 refine sq (drs [] rfl ?_ ?_)
 ·have hl := clkTo_len t t.length
  simp [holdsC, under, hl]
  exact ⟨⟨⟨fun _ => hi, fun _ => hgo⟩, fun _ => hj⟩, fun _ => hgo⟩
 refine WP.ret ?_
 change Fin ..
 refine fin1 hT (by rfl) ?_
 have e1 : (clkTo t t.length).getD (i : Int).toNat zeroC = clkOf t i := clkTo_get t hi
 have e2 : (clkTo t t.length).getD (j : Int).toNat zeroC = clkOf t j := clkTo_get t hj
 rw [e1, e2, band, befB]
 congr 1
 exact decide_eq_decide.2 Int.ofNat_lt
theorem past_ac (t : List Evt) (j : Int) : AC Tryz.prog T tysN 124 [encTab t, .int j] [] (.clo 168 [.rp 3 (.int j), .rp 147 (encTab t)]) [] := by
 refine AC_intro hT Tryz.func124 rfl rfl (Nat.le_of_ble_eq_true rfl) ?_
 refine sq (rg [] rfl ?_)
 refine sq (rg [] rfl ?_)
 refine WP.ret ?_
 change Fin ..
 refine fin_mk hT [(.s 2 0, 1), (.s 3 0, 1)] (ts := [(4, .clo 168 [.rp 3 (.int j), .rp 147 (encTab t)])]) (l := [.clo 168 [.rp 3 (.int j), .rp 147 (encTab t)]]) ⟨⟨_, rfl, Nat.le_refl _⟩, ⟨_, rfl, Nat.le_refl _⟩, trivial⟩ ⟨⟨rfl, _, rfl, ?_⟩, trivial⟩ trivial rfl rfl rfl
 exact ⟨_, rfl, _, _, rfl, conv_rpe rfl rfl (by decide) rfl rfl rfl, _, _, rfl, conv_rpe rfl rfl (by decide) rfl rfl (noIds_tab t), rfl⟩
end Go.Ab


/- The past of an event, as an iterator. -/
set_option autoImplicit false
set_option maxRecDepth 20000
set_option linter.unusedSimpArgs false
set_option linter.unusedVariables false
namespace Go.Ab
open Go.Proofs
def pastTo (t : List Evt) (j : Nat) : Nat → List Nat
  | 0 => []
  | d + 1 => pastTo t j d ++ (if befB t (j - 1 - d) j then [j - 1 - d] else [])
/-- The past of j, the last one first. -/
def pastL (t : List Evt) (j : Nat) : List Nat := pastTo t j j
theorem pastTo_len (t : List Evt) (j : Nat) : ∀ d, (pastTo t j d).length ≤ d
  | 0 => Nat.le_refl _
  | d + 1 => by
    have := pastTo_len t j d
    rw [pastTo, List.length_append]
    split <;> simp <;> omega
def encJ (j : Nat) (x : {i : Nat // i < j}) : Array Value := #[.int .i64 (x.1 : Int)]
def tsP (l : Nat) (t : List Evt) (j : Nat) (k : Int) : List (Nat × AV) := [(0, .v (.func (.yield l) #[] #[])), (1, .rp 3 (.int j)), (2, .rp 147 (encTab t)), (4, .int k)]
def tsQ (l : Nat) (t : List Evt) (j : Nat) (k : Int) (b : Bool) : List (Nat × AV) := [(0, .v (.func (.yield l) #[] #[])), (1, .rp 3 (.int j)), (2, .rp 147 (encTab t)), (4, .int k), (8, .bool b)]
theorem pastIt (t : List Evt) (h : GoOK t) (j : Nat) (hj : j < t.length) : IterC Tryz.prog T tysN 168 [.rp 3 (.int j), .rp 147 (encTab t)] (encJ j) (fun xs => xs.map (·.1) = pastL t j) j := by
  have h256 := h.1
  refine ⟨enters_of Tryz.func168 rfl rfl, fun I lb hlb hcl l J Y0 W himm hY hr hJ0 => ?_⟩
  obtain ⟨v1, v2, rfl⟩ : ∃ v1 v2, lb = #[v1, v2] := by
    obtain ⟨L⟩ := lb
    match L, hlb with
    | [x, y], _ => exact ⟨x, y, rfl⟩
  have hc1 := hcl 0 _ rfl
  have hc2 := hcl 1 _ rfl
  simp only [List.getD_eq_getElem?_getD, Array.getD_eq_getD_getElem?] at hc1 hc2
  have hr' : Rounds Tryz.prog l j (encJ j) J I := hr
  refine (callsIn_wide (n := 0)).1 (callsIn_of_wp Tryz.func168 rfl trivial ?_)
  have hst := ItS.start (fn := Tryz.f168) (T := T) (N := tysN) (args := [.v (.func (.yield l) #[] #[]), .rp 3 (.int j), .rp 147 (encTab t)]) (vs := [.func (.yield l) #[] #[], v1, v2]) hJ0 himm rfl (Nat.le_of_ble_eq_true rfl) (fun i x v hx hv => by
    match i with
    | 0 => simp at hx hv; subst hx hv; exact yield_rep
    | 1 => simp at hx hv; subst hx hv; exact .one (by simpa using hc1)
    | 2 => simp at hx hv; subst hx hv; exact .one (by simpa using hc2)
    | i + 3 => simp at hx)
  refine wpIn_seq ?_
  refine ItS.step hY hst (t' := (mkSt (tsP l t j ((j : Int) - 1)) []).t) (WP.reg hT hE [] rfl trivial ⟨rfl, Ent.mk (ts := tsP l t j ((j : Int) - 1)) (ms := []) hT [] trivial ⟨⟨rfl, _, rfl, conv_eq rfl⟩, ⟨rfl, _, rfl, conv_eq rfl⟩, ⟨rfl, _, rfl, conv_eq rfl⟩, ⟨rfl, _, rfl, conv_eq (by rw [wrap_id (by omega) (by omega)])⟩, trivial⟩ trivial rfl⟩) (fun a1 W1 hi1 => ?_)
  refine wpIn_block ?_
  refine wpIn_loop (fun a w => ∃ d pre, d ≤ j ∧ pre.map (·.1) = pastTo t j d ∧ ItS T tysN _ J I pre (mkSt (tsP l t j ((j : Int) - 1 - d)) []).t a w) (fun a w => match a.tmps.getD 4 undef with | .int _ n => (n + 1).toNat | _ => 0) ⟨0, [], Nat.zero_le _, rfl, by simpa using hi1⟩ ?_
  rintro a W ⟨d, pre, hd, hpre, hi⟩
  refine wpIn_seq (wpIn_seq ?_)
  refine ItS.step hY hi (t' := (mkSt (tsQ l t j ((j : Int) - 1 - d) (decide ((j : Int) - 1 - d ≥ 0))) []).t) (WP.reg hT hE [] rfl trivial ⟨rfl, Ent.mk (ts := tsQ l t j ((j : Int) - 1 - d) (decide ((j : Int) - 1 - d ≥ 0))) (ms := []) hT [] trivial ⟨⟨rfl, _, rfl, conv_eq rfl⟩, ⟨rfl, _, rfl, conv_eq rfl⟩, ⟨rfl, _, rfl, conv_eq rfl⟩, ⟨rfl, _, rfl, conv_eq rfl⟩, ⟨rfl, _, rfl, conv_eq rfl⟩, trivial⟩ trivial rfl⟩) (fun a2 W2 hi2 => ?_)
  refine ItS.cond hi2 (by rfl) (fun hb => ?_) (fun hb => ?_)
  · -- a step
    have hdj : d < j := by simp at hb; omega
    have hk : (j : Int) - 1 - d = ((j - 1 - d : Nat) : Int) := by omega
    have hm0 : (match a.tmps.getD 4 undef with | .int _ n => (n + 1).toNat | _ => 0) = j - d := by
      rw [hi.val (k := 4) rfl]
      simp only; omega
    refine wpIn_skip ?_
    refine wpIn_seq (wpIn_block (wpIn_seq ?_))
    have hi3 : ItS T tysN _ J I pre (mkSt (tsP l t j ((j - 1 - d : Nat) : Int)) []).t a2 W2 := ItS.ent hY hi2 (Ent.mk (ts := tsP l t j ((j - 1 - d : Nat) : Int)) (ms := []) hT [] trivial ⟨⟨rfl, _, rfl, conv_eq rfl⟩, ⟨rfl, _, rfl, conv_eq rfl⟩, ⟨rfl, _, rfl, conv_eq rfl⟩, ⟨rfl, _, rfl, conv_eq (by rw [hk])⟩, trivial⟩ trivial rfl)
    have hbf := before_ac t h (j - 1 - d) j (by omega) hj
    refine wpIn_region_list (wpList_split 7 _ rfl ?_)
    refine ItS.begins hT hE hY [CG.pure (.bool (befB t (j - 1 - d) j))] hi3 rfl ?_ (fun a4 W4 hi4 => ?_)
    · simp [holdsC, under, CG.pure]
      exact hbf
    refine ItS.yield (d := 18) (l := l) (M := j) (x := ⟨j - 1 - d, by omega⟩) (G := .when (befB t (j - 1 - d) j)) (G1 := .when (befB t (j - 1 - d) j)) (G2 := .when (befB t (j - 1 - d) j)) (xv := .int .i64 ((j - 1 - d : Nat) : Int)) hY hr' hi4 rfl rfl rfl rfl (Nat.le_of_ble_eq_true rfl) rfl rfl (fun h => h) rfl (fun h => h) (fun _ => rfl) (fun _ => ?_) (fun hG a5 W5 hi5 => ?_) (fun hG a5 hi5 => ?_)
    · have := pastTo_len t j d
      rw [← hpre, List.length_map] at this
      omega
    · refine ItS.ends hT hE hY [] hi5 rfl ?_ (fun a6 W6 hi6 => ?_)
      · simp [holdsC, under]
      refine ItS.cond hi6 (by rfl) (fun hc => ?_) (fun _ => ?_)
      · exfalso
        revert hc
        cases befB t (j - 1 - d) j <;> simp
      refine wpIn_skip ?_
      refine ItS.step hY hi6 (t' := (mkSt (tsP l t j ((j : Int) - 1 - (d + 1 : Nat))) []).t) (WP.reg hT hE [] rfl trivial ⟨rfl, Ent.mk (ts := tsP l t j ((j : Int) - 1 - (d + 1 : Nat))) (ms := []) hT [] trivial ⟨⟨rfl, _, rfl, conv_eq rfl⟩, ⟨rfl, _, rfl, conv_eq rfl⟩, ⟨rfl, _, rfl, conv_eq rfl⟩, ⟨rfl, _, rfl, conv_eq (by rw [wrap_id (by omega) (by omega)]; congr 2; omega)⟩, trivial⟩ trivial rfl⟩) (fun a7 W7 hi7 => ?_)
      refine ⟨⟨d + 1, _, hdj, ?_, hi7⟩, ?_⟩
      · have hG' : befB t (j - 1 - d) j = true := hG
        rw [List.map_append, hpre, pastTo, if_pos hG']; rfl
      · simp only [hm0]
        rw [hi7.val (k := 4) rfl]
        simp only; omega
    · refine ItS.ends hT hE hY [] hi5 rfl ?_ (fun a6 W6 hi6 => ?_)
      · simp [holdsC, under]
      refine ItS.cond hi6 (by rfl) (fun hc => ?_) (fun _ => ?_)
      · exfalso
        revert hc
        cases befB t (j - 1 - d) j <;> simp
      refine wpIn_skip ?_
      refine ItS.step hY hi6 (t' := (mkSt (tsP l t j ((j : Int) - 1 - (d + 1 : Nat))) []).t) (WP.reg hT hE [] rfl trivial ⟨rfl, Ent.mk (ts := tsP l t j ((j : Int) - 1 - (d + 1 : Nat))) (ms := []) hT [] trivial ⟨⟨rfl, _, rfl, conv_eq rfl⟩, ⟨rfl, _, rfl, conv_eq rfl⟩, ⟨rfl, _, rfl, conv_eq rfl⟩, ⟨rfl, _, rfl, conv_eq (by rw [wrap_id (by omega) (by omega)]; congr 2; omega)⟩, trivial⟩ trivial rfl⟩) (fun a7 W7 hi7 => ?_)
      refine ⟨⟨d + 1, _, hdj, ?_, hi7⟩, ?_⟩
      · have hG' : ¬ befB t (j - 1 - d) j = true := hG
        rw [hpre, pastTo, if_neg hG', List.append_nil]
      · simp only [hm0]
        rw [hi7.val (k := 4) rfl]
        simp only; omega
  · -- the end
    have hdj : d = j := by simp at hb; omega
    subst hdj
    refine wpIn_exit ?_
    exact ItS.fin hi2 hpre rfl
end Go.Ab


/- What an iterator yields, in a slice; the past of an event. -/
set_option autoImplicit false
set_option maxRecDepth 20000
set_option linter.unusedSimpArgs false
set_option linter.unusedVariables false
namespace Go.Ab
open Go.Proofs
abbrev ownI (l : List Int) : AV := .own (.b 0) l.length 0 l.length none
def blA {α : Type} (v : α → Int) (l : List α) : List Ob := [.cells ⟨23, 1, fun _ => .own (.b 1) l.length 0 l.length none, 0⟩, cellsI 3 .i64 (l.map v)]
theorem appendSeq1_ac {α : Type} (gf : FuncId) (ta : Nat) (xa : AV) (v : α → Int) (S : List α → Prop) (M : Nat) (L : List Int) (hit : IterC Tryz.prog T tysN gf [.rp ta xa] (fun x => #[.int .i64 (v x)]) S M) (hM1 : M ≤ 1000000) (hL : ∀ xs, S xs → xs.map v = L) : AC Tryz.prog T tysN 167 [.nils, .clo gf [.rp ta xa]] [] (.own (.b 0) L.length 0 L.length none) [cellsI 3 .i64 L] := by
 refine AC_intro hT Tryz.func167 rfl rfl (Nat.le_of_ble_eq_true rfl) ?_
 refine sq (rg [] rfl ?_)
 refine sq (sq (rg [] rfl ?_))
 refine bk ?_
 refine WP.ent (Ent.toB hT [] [.s 2 0, .s 11 0] (ts := [(2, .ptr (.b 0) 1 0 []), (6, .clo gf [.rp ta xa])]) (B := blA v []) trivial rfl ?_ ?_) ?_
 · exact ⟨⟨_, .ptr (.s 2 0) 1 0 [], rfl, conv_eq rfl, rfl, rfl⟩, ⟨_, .clo gf [.rp ta xa], rfl, conv_eq rfl, rfl, rfl⟩, trivial⟩
 · exact ⟨.inl ⟨_, .cells ⟨23, 1, fun _ => .own (.s 11 0) 0 0 0 none, 0⟩, rfl, ⟨_, _, rfl, Nat.le_refl _, Nat.zero_le _, Nat.zero_le _, fun i hi => by (obtain rfl : i = 0 := (by simp at hi; exact hi)); exact conv_nil_own⟩, fun _ _ => rfl, rfl⟩, .inr ⟨rfl, 3, _, rfl, by decide⟩, trivial⟩
 refine WP.rangeF (fun _ _ h => h) (nb2 := 2) (A := fun x => [.int (v x)]) (blA v) (by rfl) rfl hit (fun x I ρ => ⟨rfl, rfl, fun i a ha => by match i with | 0 => (simp at ha; subst ha; exact repV_v rfl) | i + 1 => simp at ha⟩) (fun p hp => by simp at hp; subst hp; decide) (fun _ => rfl) ?_ ?_
 ·intro pre x hM
  have hpl : (pre.map v).length = pre.length := by simp
  refine rg [] rfl ?_
  refine bk (rgs [] rfl ?_ ?_)
  ·have hb : (T 3).bytes = 8 := rfl
   simp [holdsC, under, hb]
   omega
  refine rnd_mk hT [] trivial ?_ rfl
  refine ⟨⟨fun _ _ => rfl, .inl ⟨_, rfl, _, _, rfl, Nat.le_refl _, Nat.zero_le _, Nat.zero_le _, fun i hi => ?_⟩⟩, ob_ints rfl rfl (by simp) rfl rfl ?_, trivial⟩
  · obtain rfl : i = 0 := by simp at hi; exact hi
    exact conv_eq (by simp only [List.length_append, List.length_singleton]; rfl)
  · rw [List.map_append]
    exact app1 (z := .int 0) (by simp) (fun q hq => rfl)
 ·intro xs hS
  rw [show blA v xs = [.cells ⟨23, 1, fun _ => .own (.b 1) xs.length 0 xs.length none, 0⟩, cellsI 3 .i64 (xs.map v)] from rfl]
  refine sq (rg [] rfl ?_)
  refine WP.ret ?_
  change Fin ..
  have e := hL xs hS
  refine fin_toB hT [] [.b 1] (ts := [(4, .own (.b 0) L.length 0 L.length none)]) (l := [.own (.b 0) L.length 0 L.length none]) trivial rfl ⟨⟨_, .own (.b 1) L.length 0 L.length none, rfl, conv_eq (by rw [← e, List.length_map]), rfl, rfl⟩, trivial⟩ ⟨.inl ⟨_, cellsI 3 .i64 L, rfl, ?_, fun _ _ => rfl, rfl⟩, trivial⟩ rfl rfl
  rw [e]
  exact ⟨_, _, rfl, Nat.le_refl _, Nat.zero_le _, Nat.zero_le _, fun i hi => conv_eq rfl⟩
theorem collect1_ac {α : Type} (gf : FuncId) (ta : Nat) (xa : AV) (v : α → Int) (S : List α → Prop) (M : Nat) (L : List Int) (hit : IterC Tryz.prog T tysN gf [.rp ta xa] (fun x => #[.int .i64 (v x)]) S M) (hM1 : M ≤ 1000000) (hL : ∀ xs, S xs → xs.map v = L) : AC Tryz.prog T tysN 123 [.clo gf [.rp ta xa]] [] (ownI L) [cellsI 3 .i64 L] := by
 refine AC_intro hT Tryz.func123 rfl rfl (Nat.le_of_ble_eq_true rfl) ?_
 refine sq (rg [] rfl ?_)
 refine sq (rgs [⟨true, [], ownI L, [cellsI 3 .i64 L]⟩] rfl ?_ ?_)
 ·have ha := appendSeq1_ac gf ta xa v S M L hit hM1 hL
  simp [holdsC, under]
  exact ⟨trivial, ⟨fun _ _ => rfl, trivial⟩, ha⟩
 refine WP.ret ?_
 change Fin ..
 refine fin_toB hT [] [.s 4 1] (ts := [(2, ownI L)]) (l := [ownI L]) trivial rfl ⟨⟨_, .own (.s 4 1) L.length 0 L.length none, rfl, conv_eq rfl, rfl, rfl⟩, trivial⟩ ⟨.inl ⟨_, cellsI 3 .i64 L, rfl, ?_, fun _ _ => rfl, rfl⟩, trivial⟩ rfl rfl
 exact ⟨_, _, rfl, Nat.le_refl _, Nat.zero_le _, Nat.zero_le _, fun i hi => conv_eq rfl⟩
theorem appendSeq2_ac {α : Type} (gf : FuncId) (ta tb : Nat) (xa xb : AV) (v : α → Int) (S : List α → Prop) (M : Nat) (L : List Int) (hit : IterC Tryz.prog T tysN gf [.rp ta xa, .rp tb xb] (fun x => #[.int .i64 (v x)]) S M) (hM1 : M ≤ 1000000) (hL : ∀ xs, S xs → xs.map v = L) : AC Tryz.prog T tysN 167 [.nils, .clo gf [.rp ta xa, .rp tb xb]] [] (.own (.b 0) L.length 0 L.length none) [cellsI 3 .i64 L] := by
 refine AC_intro hT Tryz.func167 rfl rfl (Nat.le_of_ble_eq_true rfl) ?_
 refine sq (rg [] rfl ?_)
 refine sq (sq (rg [] rfl ?_))
 refine bk ?_
 refine WP.ent (Ent.toB hT [] [.s 2 0, .s 11 0] (ts := [(2, .ptr (.b 0) 1 0 []), (6, .clo gf [.rp ta xa, .rp tb xb])]) (B := blA v []) trivial rfl ?_ ?_) ?_
 · exact ⟨⟨_, .ptr (.s 2 0) 1 0 [], rfl, conv_eq rfl, rfl, rfl⟩, ⟨_, .clo gf [.rp ta xa, .rp tb xb], rfl, conv_eq rfl, rfl, rfl⟩, trivial⟩
 · exact ⟨.inl ⟨_, .cells ⟨23, 1, fun _ => .own (.s 11 0) 0 0 0 none, 0⟩, rfl, ⟨_, _, rfl, Nat.le_refl _, Nat.zero_le _, Nat.zero_le _, fun i hi => by (obtain rfl : i = 0 := (by simp at hi; exact hi)); exact conv_nil_own⟩, fun _ _ => rfl, rfl⟩, .inr ⟨rfl, 3, _, rfl, by decide⟩, trivial⟩
 refine WP.rangeF (fun _ _ h => h) (nb2 := 2) (A := fun x => [.int (v x)]) (blA v) (by rfl) rfl hit (fun x I ρ => ⟨rfl, rfl, fun i a ha => by match i with | 0 => (simp at ha; subst ha; exact repV_v rfl) | i + 1 => simp at ha⟩) (fun p hp => by simp at hp; subst hp; decide) (fun _ => rfl) ?_ ?_
 ·intro pre x hM
  have hpl : (pre.map v).length = pre.length := by simp
  refine rg [] rfl ?_
  refine bk (rgs [] rfl ?_ ?_)
  ·have hb : (T 3).bytes = 8 := rfl
   simp [holdsC, under, hb]
   omega
  refine rnd_mk hT [] trivial ?_ rfl
  refine ⟨⟨fun _ _ => rfl, .inl ⟨_, rfl, _, _, rfl, Nat.le_refl _, Nat.zero_le _, Nat.zero_le _, fun i hi => ?_⟩⟩, ob_ints rfl rfl (by simp) rfl rfl ?_, trivial⟩
  · obtain rfl : i = 0 := by simp at hi; exact hi
    exact conv_eq (by simp only [List.length_append, List.length_singleton]; rfl)
  · rw [List.map_append]
    exact app1 (z := .int 0) (by simp) (fun q hq => rfl)
 ·intro xs hS
  rw [show blA v xs = [.cells ⟨23, 1, fun _ => .own (.b 1) xs.length 0 xs.length none, 0⟩, cellsI 3 .i64 (xs.map v)] from rfl]
  refine sq (rg [] rfl ?_)
  refine WP.ret ?_
  change Fin ..
  have e := hL xs hS
  refine fin_toB hT [] [.b 1] (ts := [(4, .own (.b 0) L.length 0 L.length none)]) (l := [.own (.b 0) L.length 0 L.length none]) trivial rfl ⟨⟨_, .own (.b 1) L.length 0 L.length none, rfl, conv_eq (by rw [← e, List.length_map]), rfl, rfl⟩, trivial⟩ ⟨.inl ⟨_, cellsI 3 .i64 L, rfl, ?_, fun _ _ => rfl, rfl⟩, trivial⟩ rfl rfl
  rw [e]
  exact ⟨_, _, rfl, Nat.le_refl _, Nat.zero_le _, Nat.zero_le _, fun i hi => conv_eq rfl⟩
theorem collect2_ac {α : Type} (gf : FuncId) (ta tb : Nat) (xa xb : AV) (v : α → Int) (S : List α → Prop) (M : Nat) (L : List Int) (hit : IterC Tryz.prog T tysN gf [.rp ta xa, .rp tb xb] (fun x => #[.int .i64 (v x)]) S M) (hM1 : M ≤ 1000000) (hL : ∀ xs, S xs → xs.map v = L) : AC Tryz.prog T tysN 123 [.clo gf [.rp ta xa, .rp tb xb]] [] (ownI L) [cellsI 3 .i64 L] := by
 refine AC_intro hT Tryz.func123 rfl rfl (Nat.le_of_ble_eq_true rfl) ?_
 refine sq (rg [] rfl ?_)
 refine sq (rgs [⟨true, [], ownI L, [cellsI 3 .i64 L]⟩] rfl ?_ ?_)
 ·have ha := appendSeq2_ac gf ta tb xa xb v S M L hit hM1 hL
  simp [holdsC, under]
  exact ⟨trivial, ⟨fun _ _ => rfl, trivial⟩, ha⟩
 refine WP.ret ?_
 change Fin ..
 refine fin_toB hT [] [.s 4 1] (ts := [(2, ownI L)]) (l := [ownI L]) trivial rfl ⟨⟨_, .own (.s 4 1) L.length 0 L.length none, rfl, conv_eq rfl, rfl, rfl⟩, trivial⟩ ⟨.inl ⟨_, cellsI 3 .i64 L, rfl, ?_, fun _ _ => rfl, rfl⟩, trivial⟩ rfl rfl
 exact ⟨_, _, rfl, Nat.le_refl _, Nat.zero_le _, Nat.zero_le _, fun i hi => conv_eq rfl⟩
def rvF (l : List Int) (i q : Nat) : Int := if q < i ∨ l.length - i ≤ q then l.getD (l.length - 1 - q) 0 else l.getD q 0
theorem put_nil (x y : AV) : x.put [] y = y := by cases x <;> rfl
theorem rv_mid {l : List Int} {i q : Nat} (h1 : i ≤ q) (h2 : q < l.length - i) : rvF l i q = l.getD q 0 := by
  unfold rvF; rw [if_neg (by omega)]
theorem rv_step {l : List Int} {i q : Nat} (hi : 2 * i + 1 < l.length) (hq : q < l.length) : (bif Nat.beq q (l.length - 1 - i) then AV.int (rvF l i i) else bif Nat.beq q i then AV.int (rvF l i (l.length - 1 - i)) else AV.int (rvF l i q)) = AV.int (rvF l (i + 1) q) := by
  rw [rv_mid (Nat.le_refl i) (by omega), rv_mid (by omega) (by omega)]
  by_cases e1 : q = l.length - 1 - i
  · rw [← e1, Nat.beq_refl, cond_true]
    unfold rvF
    rw [if_pos (by omega), show l.length - 1 - q = i by omega]
  · rw [nbeq_ne e1, cond_false]
    by_cases e2 : q = i
    · subst e2
      rw [Nat.beq_refl, cond_true]
      unfold rvF
      rw [if_pos (by omega)]
    · rw [nbeq_ne e2, cond_false]
      unfold rvF
      by_cases h : q < i ∨ l.length - i ≤ q
      · rw [if_pos h, if_pos (by omega)]
      · rw [if_neg h, if_neg (by omega)]
theorem rv_all {l : List Int} {i q : Nat} (hi : l.length ≤ 2 * i + 1) (hq : q < l.length) : rvF l i q = l.reverse.getD q 0 := by
  have : l.reverse.getD q 0 = l.getD (l.length - 1 - q) 0 := by
    simp only [List.getD_eq_getElem?_getD]
    rw [List.getElem?_reverse hq]
  rw [this]
  unfold rvF
  split
  · rfl
  · rw [show l.length - 1 - q = q by omega]
theorem reverse_ac (l : List Int) : AC Tryz.prog T tysN 125 [ownI l] [cellsI 3 .i64 l] (.tup []) [cellsI 3 .i64 l.reverse] := by
 refine AC_intro hT Tryz.func125 rfl rfl (Nat.le_of_ble_eq_true rfl) ?_
 refine WP.ownlen 0 rfl rfl rfl (fun hl => ?_)
 refine sq (rg [] rfl ?_)
 refine bk ?_
 refine WP.loop (α := Nat) (fun i => mkSt [(0, ownI l), (2, .int i), (3, .int ((l.length : Int) - 1 - i))] [(.b 0, .cells ⟨3, l.length, fun q => .int (rvF l i q), 0⟩)]) (fun i => 2 * i ≤ l.length + 1) (fun i => l.length - i) ?_ ?_
 ·refine ⟨0, ?_, ?_⟩
  ·exact Nat.zero_le _
  ·refine em [] trivial ⟨⟨rfl, _, rfl, cvt⟩, ⟨rfl, _, rfl, cvt⟩, ⟨rfl, _, rfl, conv_eq (by rw [wrap_id (by omega) (by omega)]; simp)⟩, trivial⟩ ⟨⟨fun _ _ => rfl, .inl ⟨_, rfl, _, _, rfl, Nat.le_refl _, Nat.zero_le _, Nat.zero_le _, fun q hq => conv_eq (by have hq' : q < l.length := hq; unfold rvF; rw [if_neg (by omega)])⟩⟩, trivial⟩
 ·rintro i hi
  refine sq (sq (rg [] rfl ?_))
  refine cd rfl (fun h1 => ?_) (fun h1 => ?_)
  ·have hij : (i : Int) < (l.length : Int) - 1 - i := by simpa using h1
   have hj : ((l.length : Int) - 1 - i).toNat = l.length - 1 - i := by omega
   refine sk (sq (bk (drs [] rfl ?_ ?_)))
   ·simp [holdsC, under]
    omega
   refine rg [] rfl ?_
   refine ⟨i + 1, ?_, ?_, ?_⟩
   ·omega
   ·refine em [] trivial ⟨⟨rfl, _, rfl, cvt⟩, ⟨rfl, _, rfl, conv_eq (by rw [wrap_id (by omega) (by omega)]; rfl)⟩, ⟨rfl, _, rfl, conv_eq (by rw [wrap_id (by omega) (by omega)]; congr 2; omega)⟩, trivial⟩ ⟨⟨fun _ _ => rfl, .inl ⟨_, rfl, _, _, rfl, Nat.le_refl _, Nat.zero_le _, Nat.zero_le _, fun q hq => conv_eq (by have hq' : q < l.length := hq; have e := rv_step (l := l) (i := i) (by omega) hq'; rw [← hj] at e; refine Eq.trans ?_ e; simp only [put_nil, Nat.add_zero]; rfl)⟩⟩, trivial⟩
   ·(try simp only []); first | omega | grind
  ·have hij : ¬ (i : Int) < (l.length : Int) - 1 - i := by simpa using h1
   refine xt ?_
   change Fin _ _ _ _ _ _ _ _
   refine fin_mk hT [] (ts := []) (l := []) trivial trivial ⟨ob_ints rfl rfl (by simp) rfl rfl (fun q hq => ?_), trivial⟩ rfl rfl rfl
   rw [List.length_reverse] at hq
   exact congrArg AV.int (rv_all (by omega) hq)
end Go.Ab


/- order.Past, order.Clocks. -/
set_option autoImplicit false
set_option maxRecDepth 20000
set_option linter.unusedSimpArgs false
set_option linter.unusedVariables false
namespace Go.Ab
open Go.Proofs
def pastI (t : List Evt) (j : Nat) : List Int := (pastL t j).map fun n : Nat => (n : Int)
theorem ask_at {t : List Evt} {i : Int} (h : askE t [i] = 0) : GoOK t ∧ 0 ≤ i ∧ i < t.length := by
  unfold askE at h
  by_cases h1 : chkE t ≠ 0
  · rw [if_pos h1] at h; exact absurd h h1
  · rw [if_neg h1] at h
    refine ⟨chk_right (by simpa using h1), ?_⟩
    simp at h
    omega
theorem past_has {t : List Evt} {j : Nat} (xs : List {i : Nat // i < j}) (h : xs.map (·.1) = pastL t j) : xs.map (fun x => (x.1 : Int)) = pastI t j := by
  rw [pastI, ← h, List.map_map]; rfl
theorem opast_ac (g : Bool) (t : List Evt) (i : Int) : AC Tryz.prog T tysN 78 [evts g t, .int i] [] (.tup [ints false (if askE t [i] = 0 then (pastI t i.toNat).reverse else []), .int (askE t [i])]) [] := by
 refine AC_intro hT Tryz.func78 rfl rfl (Nat.le_of_ble_eq_true rfl) ?_
 refine sq (rg [] rfl ?_)
 refine sq (rgs [CG.pure (.tup [tabF t (askE t [i]), .int (askE t [i])])] rfl ?_ ?_)
 ·have ha := asked_ac g true t [i]
  simp [holdsC, under, CG.pure]
  refine AC.conv hT ha ?_
  exact ⟨_, _, rfl, conv_eq rfl, _, _, rfl, conv_rowL (fun h => h) (fun j hj => by match j, hj with | 0, _ => rfl), rfl⟩
 refine sq (sq (rg [] rfl ?_))
 refine cd rfl (fun h2 => ?_) (fun h2 => ?_)
 ·have hbad : askE t [i] ≠ 0 := by simpa using h2
  refine sq (rg [] rfl ?_)
  refine WP.ret ?_
  change Fin ..
  refine fin_mk hT [] (ts := [(4, ints false []), (5, .int (askE t [i]))]) (l := [ints false [], .int (askE t [i])]) trivial ⟨⟨rfl, _, rfl, conv_nil_row (by decide)⟩, ⟨rfl, _, rfl, conv_eq rfl⟩, trivial⟩ trivial rfl rfl ?_
  rw [if_neg hbad]; rfl
 ·have hz : askE t [i] = 0 := by simpa using h2
  obtain ⟨hok, hi0, hi1⟩ := ask_at hz
  have h256 := hok.1
  have hii : ((i.toNat : Nat) : Int) = i := Int.toNat_of_nonneg hi0
  refine sk (sq ?_)
  refine WP.ent (st' := mkSt [(1, .int i), (6, .ptr (.s 6 0) 1 0 []), (7, .int 0)] [(.s 6 0, .cells ⟨147, 1, fun _ => encTab t, 0⟩)]) ?_ ?_
  ·refine em [] trivial ⟨⟨rfl, _, rfl, cvt⟩, ⟨rfl, _, rfl, cvt⟩, ⟨rfl, _, rfl, conv_eq (by rw [hz])⟩, trivial⟩ ⟨⟨fun _ _ => okIds_agg (fun i hi => by match i, hi with | 0, _ | 1, _ => rfl), .inl ⟨_, rfl, _, _, rfl, Nat.le_refl _, Nat.zero_le _, Nat.zero_le _, fun q hq => by (obtain rfl : q = 0 := (by simp at hq; exact hq)); exact conv_eq (by show tabF t (askE t [i]) = _; rw [hz]; rfl)⟩⟩, trivial⟩
  refine rgs [CG.pure (.clo 168 [.rp 3 (.int i), .rp 147 (encTab t)]), ⟨true, [], ownI (pastI t i.toNat), [cellsI 3 .i64 (pastI t i.toNat)]⟩] rfl ?_ ?_
  ·have hp := past_ac t i
   have hc := collect2_ac 168 3 147 (.int i) (encTab t) (fun x : {q : Nat // q < i.toNat} => (x.1 : Int)) (fun xs => xs.map (·.1) = pastL t i.toNat) i.toNat (pastI t i.toNat) (by have := pastIt t hok i.toNat (by omega); rw [hii] at this; exact this) (by omega) (past_has (t := t) (j := i.toNat))
   simp [holdsC, under, CG.pure]
   exact ⟨hp, trivial, ⟨fun _ _ => rfl, trivial⟩, hc⟩
  refine sq (rgs [⟨true, [.s 22 1], .tup [], [cellsI 3 .i64 (pastI t i.toNat).reverse]⟩] rfl ?_ ?_)
  ·have hr := reverse_ac (pastI t i.toNat)
   simp [holdsC, under]
   exact ⟨⟨fun _ _ => rfl, trivial⟩, ⟨fun _ _ => rfl, trivial⟩, hr⟩
  refine sq (rg [] rfl ?_)
  refine WP.ret ?_
  change Fin ..
  refine fin_mk hT [(.s 22 1, (pastI t i.toNat).length)] (ts := [(4, ints false (pastI t i.toNat).reverse), (5, .int 0)]) (l := [ints false (pastI t i.toNat).reverse, .int 0]) ⟨⟨_, rfl, by simp⟩, trivial⟩ ⟨⟨rfl, _, rfl, ?_⟩, ⟨rfl, _, rfl, conv_eq rfl⟩, trivial⟩ trivial rfl rfl ?_
  · rw [ints, List.length_reverse]
    exact conv_row rfl (by simp) rfl (fun h => by cases h) (by simp [lookF, idbeq_self]) (fun j hj => by rw [Nat.zero_add]; exact ⟨rfl, AEq.refl _⟩)
  · rw [if_pos hz, hz]; rfl
theorem oclocks_ac (g : Bool) (t : List Evt) : AC Tryz.prog T tysN 77 [evts g t] [] (.tup [clks false (if chkE t = 0 then clkTo t t.length else []), .int (chkE t)]) [] := by
 refine AC_intro hT Tryz.func77 rfl rfl (Nat.le_of_ble_eq_true rfl) ?_
 refine sq (rg [] rfl ?_)
 refine sq (rgs [CG.pure (.tup [tabF t (chkE t), .int (chkE t)])] rfl ?_ ?_)
 ·have ha := asked_ac g false t []
  have e : askE t [] = chkE t := by unfold askE; split <;> simp_all
  rw [e] at ha
  simp [holdsC, under, CG.pure]
  refine AC.conv hT ha ?_
  exact ⟨_, _, rfl, conv_eq rfl, _, _, rfl, conv_nil_row (by decide), rfl⟩
 refine sq (rg [] rfl ?_)
 refine WP.ret ?_
 change Fin ..
 refine fin_mk hT [] (ts := [(2, clks false (cE t (chkE t))), (3, .int (chkE t))]) (l := [clks false (cE t (chkE t)), .int (chkE t)]) trivial ⟨⟨rfl, _, rfl, conv_eq rfl⟩, ⟨rfl, _, rfl, conv_eq rfl⟩, trivial⟩ trivial rfl rfl rfl
end Go.Ab


/- Lists compared; ContainsFunc of whole numbers; pairs compared. -/
set_option autoImplicit false
set_option maxRecDepth 20000
set_option linter.unusedSimpArgs false
set_option linter.unusedVariables false
namespace Go.Ab
open Go.Proofs
def cmp1 (x y : Int) : Int := if x < y then -1 else if x > y then 1 else 0
def cmpL : List Int → List Int → Int
  | [], [] => 0
  | [], _ :: _ => -1
  | _ :: _, [] => 1
  | x :: r, y :: s => if cmp1 x y ≠ 0 then cmp1 x y else cmpL r s
theorem drop_at {l : List Int} {i : Nat} (h : i < l.length) : l.drop i = l.getD i 0 :: l.drop (i + 1) := by
  rw [List.drop_eq_getElem_cons h]
  simp [List.getD_eq_getElem?_getD, h]
theorem isnan_ac (x : Int) : AC Tryz.prog T tysN 156 [.int x] [] (.bool false) [] := by
 refine AC_intro hT Tryz.func156 rfl rfl (Nat.le_of_ble_eq_true rfl) ?_
 refine sq (rg [] rfl ?_)
 refine sq (rg [] rfl ?_)
 refine WP.ret ?_
 change Fin ..
 exact fin1 hT (by rfl) (by simp)
theorem cmp1_ac (x y : Int) : AC Tryz.prog T tysN 107 [.int x, .int y] [] (.int (cmp1 x y)) [] := by
 refine AC_intro hT Tryz.func107 rfl rfl (Nat.le_of_ble_eq_true rfl) ?_
 refine sq (rg [] rfl ?_)
 refine sq (rgs [CG.pure (.bool false)] rfl ?_ ?_)
 ·exact isnan_ac x
 refine sq (rgs [CG.pure (.bool false)] rfl ?_ ?_)
 ·exact isnan_ac y
 refine sq (sq (rg [] rfl ?_))
 refine cd rfl (fun h3 => ?_) (fun h3 => ?_)
 ·cases h3
 ·refine sk (sq (sq (rg [] rfl ?_)))
  refine cd rfl (fun h7 => ?_) (fun h7 => ?_)
  ·cases h7
  ·refine sk (sq (sq (rg [] rfl ?_)))
   refine cd rfl (fun h9 => ?_) (fun h9 => ?_)
   ·refine sq (rg [] rfl ?_)
    refine WP.ret ?_
    change Fin ..
    refine finI hT (by rfl) ?_
    simp_all [cmp1]
    all_goals (try grind)
   ·refine sk (sq (sq (rg [] rfl ?_)))
    refine cd rfl (fun h11 => ?_) (fun h11 => ?_)
    ·refine sq (rg [] rfl ?_)
     refine WP.ret ?_
     change Fin ..
     refine finI hT (by rfl) ?_
     simp_all [cmp1]
     all_goals (try grind)
    ·refine sk (sq (rg [] rfl ?_))
     refine WP.ret ?_
     change Fin ..
     refine finI hT (by rfl) ?_
     simp_all [cmp1]
     all_goals (try grind)
theorem cmpL_ac (f g : Bool) (a b : List Int) : AC Tryz.prog T tysN 63 [ints f a, ints g b] [] (.int (cmpL a b)) [] := by
 refine AC_intro hT Tryz.func63 rfl rfl (Nat.le_of_ble_eq_true rfl) ?_
 refine WP.rowlen 0 rfl (fun hla => ?_)
 refine WP.rowlen 1 rfl (fun hlb => ?_)
 refine sq (rg [] rfl ?_)
 refine sq (sq (rg [] rfl ?_))
 refine bk ?_
 refine WP.loop (α := Nat) (fun i => mkSt [(0, ints f a), (1, ints g b), (9, ints f a), (10, .int a.length), (11, .int i)] []) (fun i => i ≤ a.length ∧ i ≤ b.length ∧ cmpL a b = cmpL (a.drop i) (b.drop i)) (fun i => a.length - i) ?_ ?_
 ·refine ⟨0, ?_, ?_⟩
  ·exact ⟨Nat.zero_le _, Nat.zero_le _, rfl⟩
  ·refine em [] trivial ⟨⟨rfl, _, rfl, cvt⟩, ⟨rfl, _, rfl, cvt⟩, ⟨rfl, _, rfl, cvt⟩, ⟨rfl, _, rfl, cvt⟩, ⟨rfl, _, rfl, cvt⟩, trivial⟩ trivial
 ·rintro i ⟨hi, hib, hc⟩
  refine sq (rg [] rfl ?_)
  refine sq ?_
  refine cd rfl (fun h2 => ?_) (fun h2 => ?_)
  ·have hil : i < a.length := by simpa using h2
   refine sk (sq (bk (sq (rgs [] rfl ?_ ?_))))
   ·simp [holdsC, under]; omega
   refine sq (sq (rg [] rfl ?_))
   refine cd rfl (fun h4 => ?_) (fun h4 => ?_)
   ·have hb : b.length ≤ i := by simp at h4; omega
    refine sq (rg [] rfl ?_)
    refine WP.ret ?_
    change Fin ..
    refine finI hT (by rfl) ?_
    rw [hc, drop_at hil, List.drop_eq_nil_of_le hb]
    rfl
   ·have hb : i < b.length := by simp at h4; omega
    refine sk (sq (rgs [] rfl ?_ ?_))
    ·simp [holdsC, under]; omega
    refine sq (rgs [CG.pure (.int (cmp1 (a.getD i 0) (b.getD i 0)))] rfl ?_ ?_)
    ·exact cmp1_ac _ _
    refine sq ?_
    have hst : cmpL a b = if cmp1 (a.getD i 0) (b.getD i 0) ≠ 0 then cmp1 (a.getD i 0) (b.getD i 0) else cmpL (a.drop (i + 1)) (b.drop (i + 1)) := by rw [hc, drop_at hil, drop_at hb]; rfl
    refine rg [] rfl ?_
    refine cd rfl (fun h8 => ?_) (fun h8 => ?_)
    ·have hne : cmp1 (a.getD i 0) (b.getD i 0) ≠ 0 := by simpa using h8
     refine sq (rg [] rfl ?_)
     refine WP.ret ?_
     change Fin ..
     refine finI hT (by rfl) ?_
     rw [hst, if_pos hne]
    ·have hne : cmp1 (a.getD i 0) (b.getD i 0) = 0 := by simpa using h8
     refine sk (rg [] rfl ?_)
     refine ⟨i + 1, ?_, ?_, ?_⟩
     ·exact ⟨hil, hb, by rw [hst, if_neg (fun h => h hne)]⟩
     ·refine em [] trivial ⟨⟨rfl, _, rfl, cvt⟩, ⟨rfl, _, rfl, cvt⟩, ⟨rfl, _, rfl, cvt⟩, ⟨rfl, _, rfl, cvt⟩, ⟨rfl, _, rfl, cvt⟩, trivial⟩ trivial
     ·(try simp only []); first | omega | grind
  ·have hil : i = a.length := by simp at h2; omega
   subst hil
   refine xt (sq (sq (rg [] rfl ?_)))
   refine cd rfl (fun h11 => ?_) (fun h11 => ?_)
   ·have hlt : a.length < b.length := by simp at h11; omega
    refine sq (rg [] rfl ?_)
    refine WP.ret ?_
    change Fin ..
    refine finI hT (by rfl) ?_
    rw [hc, List.drop_eq_nil_of_le (Nat.le_refl _), drop_at hlt]
    rfl
   ·have hlt : ¬ a.length < b.length := by simp at h11; omega
    refine sk (sq (rg [] rfl ?_))
    refine WP.ret ?_
    change Fin ..
    refine finI hT (by rfl) ?_
    rw [hc, List.drop_eq_nil_of_le (Nat.le_refl _), List.drop_eq_nil_of_le (by omega)]
    rfl
/-- A pair. -/
abbrev Pr := Int × Int
def enc2 (p : Pr) : AV := arrI 75 2 .i64 [p.1, p.2]
def cmp2 (p q : Pr) : Int := cmpL [p.1, p.2] [q.1, q.2]
theorem noIds_2 (p : Pr) : noIds (enc2 p) = true := noIds_arrI
theorem okIds_2 (ids : List Id) (p : Pr) : okIds ids (enc2 p) = true := okIds_agg (fun _ _ => rfl)
theorem ren_2 (σ : Id → Id) (p : Pr) : ren σ (enc2 p) = enc2 p := rfl
def prs (f : Bool) (l : List Pr) : AV := .row 75 f l.length (fun i => enc2 (l.getD i (0, 0)))
theorem edgeCmp_ac (p q : Pr) : AC Tryz.prog T tysN 136 [enc2 p, enc2 q] [] (.int (cmp2 p q)) [] := by
 refine AC_intro hT Tryz.func136 rfl rfl (Nat.le_of_ble_eq_true rfl) ?_
 refine sq (rg [] rfl ?_)
 refine sq ?_
 refine WP.ent (st' := mkSt [(2, .rp 75 (enc2 p)), (3, .rp 75 (enc2 q))] []) ?_ ?_
 ·refine em [(.s 2 0, 1), (.s 3 0, 1)] ⟨⟨_, rfl, Nat.le_refl _⟩, ⟨_, rfl, Nat.le_refl _⟩, trivial⟩ ⟨⟨rfl, _, rfl, conv_rpe rfl rfl (by decide) rfl rfl (noIds_2 _)⟩, ⟨rfl, _, rfl, conv_rpe rfl rfl (by decide) rfl rfl (noIds_2 _)⟩, trivial⟩ trivial
 refine drs [CG.pure (.int (cmp2 p q))] rfl ?_ ?_
 ·have hc := cmpL_ac true true [p.1, p.2] [q.1, q.2]
  simp [holdsC, under, CG.pure, slOk, slB, capEq]
  refine AC.conv hT hc ?_
  exact ⟨_, _, rfl, conv_rowL (fun h => h) (fun j hj => by match j, hj with | 0, _ => rfl | 1, _ => rfl), _, _, rfl, conv_rowL (fun h => h) (fun j hj => by match j, hj with | 0, _ => rfl | 1, _ => rfl), rfl⟩
 refine WP.ret ?_
 change Fin ..
 exact finI hT rfl rfl
theorem confCmp_ac (p q : Pr) : AC Tryz.prog T tysN 62 [enc2 p, enc2 q] [] (.int (cmp2 p q)) [] := by
 refine AC_intro hT Tryz.func62 rfl rfl (Nat.le_of_ble_eq_true rfl) ?_
 refine sq (rg [] rfl ?_)
 refine sq ?_
 refine WP.ent (st' := mkSt [(2, .rp 75 (enc2 p)), (3, .rp 75 (enc2 q))] []) ?_ ?_
 ·refine em [(.s 2 0, 1), (.s 3 0, 1)] ⟨⟨_, rfl, Nat.le_refl _⟩, ⟨_, rfl, Nat.le_refl _⟩, trivial⟩ ⟨⟨rfl, _, rfl, conv_rpe rfl rfl (by decide) rfl rfl (noIds_2 _)⟩, ⟨rfl, _, rfl, conv_rpe rfl rfl (by decide) rfl rfl (noIds_2 _)⟩, trivial⟩ trivial
 refine drs [CG.pure (.int (cmp2 p q))] rfl ?_ ?_
 ·have hc := cmpL_ac true true [p.1, p.2] [q.1, q.2]
  simp [holdsC, under, CG.pure, slOk, slB, capEq]
  refine AC.conv hT hc ?_
  exact ⟨_, _, rfl, conv_rowL (fun h => h) (fun j hj => by match j, hj with | 0, _ => rfl | 1, _ => rfl), _, _, rfl, conv_rowL (fun h => h) (fun j hj => by match j, hj with | 0, _ => rfl | 1, _ => rfl), rfl⟩
 refine WP.ret ?_
 change Fin ..
 exact finI hT rfl rfl
def firstI (p : Int → Bool) (l : List Int) : Int := if l.any p then l.findIdx p else -1
theorem anyI_no {p : Int → Bool} {l : List Int} (hn : ∀ j, j < l.length → p (l.getD j 0) = false) : l.any p = false := by
  rw [List.any_eq_false]
  intro x hx
  obtain ⟨i, hi, e⟩ := List.getElem_of_mem hx
  have := hn i hi
  simpa [hi, e] using this
theorem anyI_yes {p : Int → Bool} {l : List Int} {i : Nat} (hi : i < l.length) (hp : p (l.getD i 0) = true) : l.any p = true := by
  rw [List.any_eq_true]
  exact ⟨l[i], List.getElem_mem hi, by simpa [hi] using hp⟩
theorem firstI_at {p : Int → Bool} {l : List Int} {i : Nat} (hi : i < l.length) (hp : p (l.getD i 0) = true) (hn : ∀ j, j < i → p (l.getD j 0) = false) : (i : Int) = firstI p l := by
  simp only [firstI, anyI_yes hi hp, if_true]
  congr 1
  symm
  rw [List.findIdx_eq hi]
  refine ⟨by simpa [hi] using hp, fun j hj => ?_⟩
  have := hn j hj
  have hj' : j < l.length := by omega
  simpa [hj'] using this
theorem iidx1_ac (g : Bool) (l : List Int) (f : FuncId) (ta : Nat) (xa : AV) (p : Int → Bool) (hp : ∀ x ∈ l, AC Tryz.prog T tysN f (.int x :: [.rp ta xa]) [] (.bool (p x)) []) : AC Tryz.prog T tysN 129 [ints g l, .clo f [.rp ta xa]] [] (.int (firstI p l)) [] := by
 refine AC_intro hT Tryz.func129 rfl rfl (Nat.le_of_ble_eq_true rfl) ?_
 refine WP.rowlen 0 rfl (fun hl => ?_)
 refine sq (rg [] rfl ?_)
 refine sq (sq (rg [] rfl ?_))
 refine bk ?_
 refine WP.loop (α := Nat) (fun i => mkSt [(0, ints g l), (1, .clo f [.rp ta xa]), (7, .int l.length), (8, .int i)] []) (fun i => i ≤ l.length ∧ ∀ j, j < i → p (l.getD j 0) = false) (fun i => l.length - i) ?_ ?_
 ·refine ⟨0, ?_, ?_⟩
  ·exact ⟨Nat.zero_le _, fun j hj => by omega⟩
  ·refine em [] trivial ⟨⟨rfl, _, rfl, cvt⟩, ⟨rfl, _, rfl, cvt⟩, ⟨rfl, _, rfl, cvt⟩, ⟨rfl, _, rfl, cvt⟩, trivial⟩ trivial
 ·rintro i ⟨hi, hn⟩
  refine sq (rg [] rfl ?_)
  refine sq ?_
  refine cd rfl (fun h2 => ?_) (fun h2 => ?_)
  ·have hil : i < l.length := by simpa using h2
   refine sk (sq (bk (sq (rg [] rfl ?_))))
   refine sq (rgs [CG.pure (.bool (p (l.getD i 0)))] rfl ?_ ?_)
   ·exact ⟨⟨by omega, by omega⟩, hp _ (by simp [List.getD_eq_getElem?_getD, hil])⟩
   refine cd rfl (fun h4 => ?_) (fun h4 => ?_)
   ·have hx : p (l.getD i 0) = true := h4
    refine sq (rg [] rfl ?_)
    refine WP.ret ?_
    change Fin ..
    exact finI hT rfl (firstI_at hil hx hn)
   ·have hx : p (l.getD i 0) = false := h4
    refine sk (rg [] rfl ?_)
    refine ⟨i + 1, ?_, ?_, ?_⟩
    ·refine ⟨hil, fun j hj => ?_⟩
     rcases Nat.lt_or_ge j i with h | h
     · exact hn j h
     · obtain rfl : j = i := by omega
       exact hx
    ·refine em [] trivial ⟨⟨rfl, _, rfl, cvt⟩, ⟨rfl, _, rfl, cvt⟩, ⟨rfl, _, rfl, cvt⟩, ⟨rfl, _, rfl, cvt⟩, trivial⟩ trivial
    ·(try simp only []); first | omega | grind
  ·have hil : i = l.length := by simp at h2; omega
   subst hil
   refine xt (sq (rg [] rfl ?_))
   refine WP.ret ?_
   change Fin ..
   exact finI hT rfl (by simp [firstI, anyI_no hn])
theorem icont1_ac (g : Bool) (l : List Int) (f : FuncId) (ta : Nat) (xa : AV) (p : Int → Bool) (hp : ∀ x ∈ l, AC Tryz.prog T tysN f (.int x :: [.rp ta xa]) [] (.bool (p x)) []) : AC Tryz.prog T tysN 119 [ints g l, .clo f [.rp ta xa]] [] (.bool (l.any p)) [] := by
 refine AC_intro hT Tryz.func119 rfl rfl (Nat.le_of_ble_eq_true rfl) ?_
 refine sq (rg [] rfl ?_)
 refine sq (rgs [CG.pure (.int (firstI p l))] rfl ?_ ?_)
 ·exact iidx1_ac g l f ta xa p hp
 refine WP.ret ?_
 change Fin ..
 refine fin1 hT rfl ?_
 by_cases h : l.any p = true
 · simp only [firstI, h, if_true]; simp
 · simp only [firstI, h]; simp
theorem iidx2_ac (g : Bool) (l : List Int) (f : FuncId) (ta tb : Nat) (xa xb : AV) (p : Int → Bool) (hp : ∀ x ∈ l, AC Tryz.prog T tysN f (.int x :: [.rp ta xa, .rp tb xb]) [] (.bool (p x)) []) : AC Tryz.prog T tysN 129 [ints g l, .clo f [.rp ta xa, .rp tb xb]] [] (.int (firstI p l)) [] := by
 refine AC_intro hT Tryz.func129 rfl rfl (Nat.le_of_ble_eq_true rfl) ?_
 refine WP.rowlen 0 rfl (fun hl => ?_)
 refine sq (rg [] rfl ?_)
 refine sq (sq (rg [] rfl ?_))
 refine bk ?_
 refine WP.loop (α := Nat) (fun i => mkSt [(0, ints g l), (1, .clo f [.rp ta xa, .rp tb xb]), (7, .int l.length), (8, .int i)] []) (fun i => i ≤ l.length ∧ ∀ j, j < i → p (l.getD j 0) = false) (fun i => l.length - i) ?_ ?_
 ·refine ⟨0, ?_, ?_⟩
  ·exact ⟨Nat.zero_le _, fun j hj => by omega⟩
  ·refine em [] trivial ⟨⟨rfl, _, rfl, cvt⟩, ⟨rfl, _, rfl, cvt⟩, ⟨rfl, _, rfl, cvt⟩, ⟨rfl, _, rfl, cvt⟩, trivial⟩ trivial
 ·rintro i ⟨hi, hn⟩
  refine sq (rg [] rfl ?_)
  refine sq ?_
  refine cd rfl (fun h2 => ?_) (fun h2 => ?_)
  ·have hil : i < l.length := by simpa using h2
   refine sk (sq (bk (sq (rg [] rfl ?_))))
   refine sq (rgs [CG.pure (.bool (p (l.getD i 0)))] rfl ?_ ?_)
   ·exact ⟨⟨by omega, by omega⟩, hp _ (by simp [List.getD_eq_getElem?_getD, hil])⟩
   refine cd rfl (fun h4 => ?_) (fun h4 => ?_)
   ·have hx : p (l.getD i 0) = true := h4
    refine sq (rg [] rfl ?_)
    refine WP.ret ?_
    change Fin ..
    exact finI hT rfl (firstI_at hil hx hn)
   ·have hx : p (l.getD i 0) = false := h4
    refine sk (rg [] rfl ?_)
    refine ⟨i + 1, ?_, ?_, ?_⟩
    ·refine ⟨hil, fun j hj => ?_⟩
     rcases Nat.lt_or_ge j i with h | h
     · exact hn j h
     · obtain rfl : j = i := by omega
       exact hx
    ·refine em [] trivial ⟨⟨rfl, _, rfl, cvt⟩, ⟨rfl, _, rfl, cvt⟩, ⟨rfl, _, rfl, cvt⟩, ⟨rfl, _, rfl, cvt⟩, trivial⟩ trivial
    ·(try simp only []); first | omega | grind
  ·have hil : i = l.length := by simp at h2; omega
   subst hil
   refine xt (sq (rg [] rfl ?_))
   refine WP.ret ?_
   change Fin ..
   exact finI hT rfl (by simp [firstI, anyI_no hn])
theorem icont2_ac (g : Bool) (l : List Int) (f : FuncId) (ta tb : Nat) (xa xb : AV) (p : Int → Bool) (hp : ∀ x ∈ l, AC Tryz.prog T tysN f (.int x :: [.rp ta xa, .rp tb xb]) [] (.bool (p x)) []) : AC Tryz.prog T tysN 119 [ints g l, .clo f [.rp ta xa, .rp tb xb]] [] (.bool (l.any p)) [] := by
 refine AC_intro hT Tryz.func119 rfl rfl (Nat.le_of_ble_eq_true rfl) ?_
 refine sq (rg [] rfl ?_)
 refine sq (rgs [CG.pure (.int (firstI p l))] rfl ?_ ?_)
 ·exact iidx2_ac g l f ta tb xa xb p hp
 refine WP.ret ?_
 change Fin ..
 refine fin1 hT rfl ?_
 by_cases h : l.any p = true
 · simp only [firstI, h, if_true]; simp
 · simp only [firstI, h]; simp
theorem nearF_ac (t : List Evt) (h : GoOK t) (i k : Nat) (hi : i < t.length) (hk : k < t.length) : AC Tryz.prog T tysN 135 [.int k, .rp 147 (encTab t), .rp 3 (.int i)] [] (.bool (befB t i k)) [] := by
 refine AC_intro hT Tryz.func135 rfl rfl (Nat.le_of_ble_eq_true rfl) ?_
 refine sq (rg [] rfl ?_)
 refine sq (rgs [CG.pure (.bool (befB t i k))] rfl ?_ ?_)
 ·have hb := before_ac t h i k hi hk
  simp [holdsC, under, CG.pure]
  exact hb
 refine WP.ret ?_
 change Fin ..
 exact fin1 hT rfl rfl
end Go.Ab


/- Sizes; selects. -/
set_option autoImplicit false
set_option maxRecDepth 20000
set_option maxHeartbeats 4000000
set_option linter.unusedSimpArgs false
set_option linter.unusedVariables false
namespace Go.Ab
open Go.Proofs
/-- The first thing that is wrong. -/
def fstE {α : Type} (g : α → Int) : List α → Int
  | [] => 0
  | x :: r => if g x ≠ 0 then g x else fstE g r
theorem fstE_at {α : Type} {g : α → Int} {d : α} : ∀ {l : List α} {i : Nat}, i < l.length → (∀ j, j < i → g (l.getD j d) = 0) → g (l.getD i d) ≠ 0 → fstE g l = g (l.getD i d)
  | x :: r, 0, _, _, hb => by
    have hb' : g x ≠ 0 := hb
    rw [fstE, if_pos hb']; rfl
  | x :: r, i + 1, hi, hn, hb => by
    have h0 := hn 0 (by omega)
    rw [fstE, if_neg (by simpa using h0)]
    exact fstE_at (l := r) (i := i) (by simpa using hi) (fun j hj => hn (j + 1) (by omega)) hb
theorem fstE_all {α : Type} {g : α → Int} {d : α} : ∀ {l : List α}, (∀ j, j < l.length → g (l.getD j d) = 0) → fstE g l = 0
  | [], _ => rfl
  | x :: r, hn => by
    have h0 := hn 0 (by simp)
    rw [fstE, if_neg (by simpa using h0)]
    exact fstE_all (l := r) (fun j hj => hn (j + 1) (by simpa using hj))
def szB (p : PProg) : Bool := decide ((p.vars.length : Int) > 8) || decide (p.locks < 0) || decide (p.locks > 4) || decide ((p.chans.length : Int) > 4) || decide ((p.funcs.length : Int) < 1) || decide ((p.funcs.length : Int) > 8)
def chanF (n : Int) : Int := if decide (n < 0) || decide (n > 4) then 31 else 0
def wholeF (p : PProg) : Int := if szB p then 30 else fstE chanF p.chans
theorem below_succ {P : Nat → Prop} {i : Nat} (h : ∀ j, j < i → P j) (hi : P i) : ∀ j, j < i + 1 → P j := fun j hj => by
  rcases Nat.lt_or_ge j i with h1 | h1
  · exact h j h1
  · obtain rfl : j = i := by omega
    exact hi
theorem whole_ac (p : PProg) : AC Tryz.prog T tysN 131 [encProg p] [] (.int (wholeF p)) [] := by
 refine AC_intro hT Tryz.func131 rfl rfl (Nat.le_of_ble_eq_true rfl) ?_
 refine sq (rg [] rfl ?_)
 refine sq (sq (rg [] rfl ?_))
 refine cd rfl (fun h1 => ?_) (fun h1 => ?_)
 ·have hb : szB p = true := by
    simp only [bor] at h1
    exact h1
  refine sq (rg [] rfl ?_)
  refine WP.ret ?_
  change Fin ..
  exact finI hT (by rfl) (by rw [wholeF, if_pos hb])
 ·have hb : szB p = false := by
    simp only [bor] at h1
    exact h1
  have hcl : p.chans.length ≤ 4 := by
    simp [szB] at hb; omega
  refine sk (sq (sq (rg [] rfl ?_)))
  refine bk ?_
  refine WP.loop (α := Nat) (fun i => mkSt [(38, ints false p.chans), (39, .int p.chans.length), (40, .int i)] []) (fun i => i ≤ p.chans.length ∧ ∀ j, j < i → chanF (p.chans.getD j 0) = 0) (fun i => p.chans.length - i) ?_ ?_
  ·refine ⟨0, ?_, ?_⟩
   ·exact ⟨Nat.zero_le _, fun j hj => by omega⟩
   ·refine em [] trivial ⟨⟨rfl, _, rfl, cvt⟩, ⟨rfl, _, rfl, cvt⟩, ⟨rfl, _, rfl, cvt⟩, trivial⟩ trivial
  ·rintro i ⟨hi, hn⟩
   refine sq (rg [] rfl ?_)
   refine sq ?_
   refine cd rfl (fun h4 => ?_) (fun h4 => ?_)
   ·have hil : i < p.chans.length := by simpa using h4
    refine sk (sq (bk (sq (rgs [] rfl ?_ ?_))))
    ·simp [holdsC, under]; omega
    refine sq (rg [] rfl ?_)
    refine cd rfl (fun h6 => ?_) (fun h6 => ?_)
    ·have hx : chanF (p.chans.getD i 0) = 31 := by
       simp only [bor] at h6
       exact if_pos h6
     refine sq (rg [] rfl ?_)
     refine WP.ret ?_
     change Fin ..
     exact finI hT (by rfl) (by rw [wholeF, hb, if_neg (by simp), fstE_at hil hn (by rw [hx]; decide), hx])
    ·have hx : chanF (p.chans.getD i 0) = 0 := by
       simp only [bor] at h6
       exact if_neg (by rw [show (decide (p.chans.getD i 0 < 0) || decide (p.chans.getD i 0 > 4)) = false from h6]; decide)
     refine sk (rg [] rfl ?_)
     refine ⟨i + 1, ?_, ?_, ?_⟩
     ·exact ⟨hil, below_succ hn hx⟩
     ·refine em [] trivial ⟨⟨rfl, _, rfl, cvt⟩, ⟨rfl, _, rfl, cvt⟩, ⟨rfl, _, rfl, cvt⟩, trivial⟩ trivial
     ·(try simp only []); first | omega | grind
   ·have hil : i = p.chans.length := by simp at h4; omega
    subst hil
    refine xt (sq (rg [] rfl ?_))
    refine WP.ret ?_
    change Fin ..
    exact finI hT (by rfl) (by rw [wholeF, hb, if_neg (by simp), fstE_all hn])
def szF (f : PFun) (main : Bool) : Bool := (decide (f.regs ≥ 0) && decide (f.regs ≤ 8) && decide (f.params ≥ 0) && decide (f.params ≤ f.regs) && !(main && decide (f.params > 0))) && decide ((f.code.length : Int) ≥ 1) && decide ((f.code.length : Int) ≤ 64) && decide ((f.sels.length : Int) ≤ 4)
theorem szF_iff {f : PFun} {main : Bool} : szF f main = true ↔ 0 ≤ f.regs ∧ f.regs ≤ 8 ∧ 0 ≤ f.params ∧ f.params ≤ f.regs ∧ ¬ (main = true ∧ f.params > 0) ∧ (f.code.length : Int) ≥ 1 ∧ (f.code.length : Int) ≤ 64 ∧ (f.sels.length : Int) ≤ 4 := by
  simp only [szF, Bool.and_eq_true, decide_eq_true_eq, Bool.not_eq_true', Bool.and_eq_false_iff, decide_eq_false_iff_not]
  cases main <;> simp <;> omega
theorem not_true {b : Bool} (h : ¬ b = true) : b = false := by simpa using h
def selB (s : PSel) : Bool := decide ((s.cases.length : Int) ≥ 1) && decide ((s.cases.length : Int) ≤ 4)
def selTo (f : PFun) : Nat → Bool
  | 0 => true
  | i + 1 => selTo f i && selB (f.sels.getD i sel0)
theorem selTo_bad {f : PFun} {i : Nat} {n : Nat} (h : i < n) (hx : selB (f.sels.getD i sel0) = false) : selTo f n = false := by
  induction n with
  | zero => omega
  | succ n ih =>
    rw [selTo]
    by_cases e : i = n
    · subst e; rw [hx, Bool.and_false]
    · rw [ih (by omega), Bool.false_and]
def formedF (f : PFun) (main : Bool) : Bool := szF f main && selTo f f.sels.length
theorem sizes_ac (f : PFun) (main : Bool) : AC Tryz.prog T tysN 132 [encFun f, .bool main] [] (.int (if formedF f main then 0 else 32)) [] := by
 refine AC_intro hT Tryz.func132 rfl rfl (Nat.le_of_ble_eq_true rfl) ?_
 refine sq (rg [] rfl ?_)
 refine sq (rg [] rfl ?_)
 refine sq (rg [] rfl ?_)
 refine sq (sq (rg [] rfl ?_))
 refine WP.rowlen 57 rfl (fun hl57 => ?_)
 refine bk ?_
 refine WP.loop (α := Nat × Bool) (fun (⟨i, ok⟩ : Nat × Bool) => mkSt [(5, .bool ok), (57, rowP 221 encSel sel0 f.sels), (58, .int f.sels.length), (59, .int i)] []) (fun (⟨i, ok⟩ : Nat × Bool) => i ≤ f.sels.length ∧ ok = (szF f main && selTo f i)) (fun (⟨i, ok⟩ : Nat × Bool) => f.sels.length - i) ?_ ?_
 ·refine ⟨(0, szF f main), ?_, ?_⟩
  ·exact ⟨Nat.zero_le _, by simp [selTo]⟩
  ·refine em [] trivial ⟨⟨rfl, _, rfl, conv_eq (by simp only [band]; rfl)⟩, ⟨rfl, _, rfl, cvt⟩, ⟨rfl, _, rfl, cvt⟩, ⟨rfl, _, rfl, cvt⟩, trivial⟩ trivial
 ·rintro ⟨i, ok⟩ ⟨hi, hok⟩
  refine sq (rg [] rfl ?_)
  refine sq ?_
  refine cd rfl (fun h4 => ?_) (fun h4 => ?_)
  ·have hil : i < f.sels.length := by simpa using h4
   refine sk (sq (bk (sq (rgs [] rfl ?_ ?_))))
   ·simp [holdsC, under]; omega
   refine rg [] rfl ?_
   refine rg [] rfl ?_
   refine ⟨(i + 1, szF f main && selTo f (i + 1)), ?_, ?_, ?_⟩
   ·exact ⟨hil, rfl⟩
   ·refine em [] trivial ⟨⟨rfl, _, rfl, conv_eq (by simp only [band]; rw [hok, selTo, selB]; simp only [Bool.and_assoc]; rfl)⟩, ⟨rfl, _, rfl, cvt⟩, ⟨rfl, _, rfl, cvt⟩, ⟨rfl, _, rfl, cvt⟩, trivial⟩ trivial
   ·(try simp only []); first | omega | grind
  ·have hil : i = f.sels.length := by simp at h4; omega
   subst hil
   refine xt (sq (sq (rg [] rfl ?_)))
   refine cd rfl (fun h8 => ?_) (fun h8 => ?_)
   ·have ho : formedF f main = false := by rw [formedF, ← hok]; simpa using h8
    refine sq (rg [] rfl ?_)
    refine WP.ret ?_
    change Fin ..
    exact finI hT (by rfl) (by rw [ho]; rfl)
   ·have ho : formedF f main = true := by rw [formedF, ← hok]; simpa using h8
    refine sk (sq (rg [] rfl ?_))
    refine WP.ret ?_
    change Fin ..
    exact finI hT (by rfl) (by rw [ho]; rfl)
theorem formed_ac (n : Nat) (f : PFun) : AC Tryz.prog T tysN 111 [.int n, encFun f] [] (.bool (formedF f (n == 0))) [] := by
 refine AC_intro hT Tryz.func111 rfl rfl (Nat.le_of_ble_eq_true rfl) ?_
 refine sq (rg [] rfl ?_)
 refine sq (sq (rg [] rfl ?_))
 refine cd rfl (fun h1 => ?_) (fun h1 => ?_)
 ·have hb : szF f (n == 0) = false := by
    refine not_true fun hz => ?_
    rw [szF_iff] at hz
    simp only [bor, band, Bool.or_eq_true, Bool.and_eq_true, decide_eq_true_eq, beq_iff_eq, bne_iff_ne] at h1 hz
    omega
  refine sq (rg [] rfl ?_)
  refine WP.ret ?_
  change Fin ..
  exact fin1 hT (by rfl) (by rw [formedF, hb]; rfl)
 ·refine sk (sq (sq (rg [] rfl ?_)))
  refine cd rfl (fun h3 => ?_) (fun h3 => ?_)
  ·have hb : szF f (n == 0) = false := by
     refine not_true fun hz => ?_
     rw [szF_iff] at hz
     simp only [bor, band, Bool.or_eq_true, Bool.and_eq_true, decide_eq_true_eq, beq_iff_eq, bne_iff_ne] at h3 hz
     omega
   refine sq (rg [] rfl ?_)
   refine WP.ret ?_
   change Fin ..
   exact fin1 hT (by rfl) (by rw [formedF, hb]; rfl)
  ·have hb : szF f (n == 0) = true := by
     rw [szF_iff]
     simp only [bor, band, Bool.or_eq_false_iff, Bool.and_eq_false_iff, decide_eq_false_iff_not, beq_iff_eq, beq_eq_false_iff_ne, bne_eq_false_iff_eq] at h1 h3 ⊢
     omega
   have hsl : f.sels.length ≤ 4 := by
     simp [szF] at hb; omega
   refine sk (sq (sq (rg [] rfl ?_)))
   refine bk ?_
   refine WP.loop (α := Nat) (fun i => mkSt [(53, rowP 221 encSel sel0 f.sels), (54, .int f.sels.length), (55, .int i)] []) (fun i => i ≤ f.sels.length ∧ selTo f i = true) (fun i => f.sels.length - i) ?_ ?_
   ·refine ⟨0, ?_, ?_⟩
    ·exact ⟨Nat.zero_le _, rfl⟩
    ·refine em [] trivial ⟨⟨rfl, _, rfl, cvt⟩, ⟨rfl, _, rfl, cvt⟩, ⟨rfl, _, rfl, cvt⟩, trivial⟩ trivial
   ·rintro i ⟨hi, hok⟩
    refine sq (rg [] rfl ?_)
    refine sq ?_
    refine cd rfl (fun h6 => ?_) (fun h6 => ?_)
    ·have hil : i < f.sels.length := by simpa using h6
     refine sk (sq (bk (sq (rgs [] rfl ?_ ?_))))
     ·simp [holdsC, under]; omega
     refine sq (rg [] rfl ?_)
     refine cd rfl (fun h8 => ?_) (fun h8 => ?_)
     ·have hx : selB (f.sels.getD i sel0) = false := by
        simp only [bor, Bool.or_eq_true, decide_eq_true_eq, Int.toNat_natCast] at h8
        simp only [selB, Bool.and_eq_false_iff, decide_eq_false_iff_not]
        omega
      refine sq (rg [] rfl ?_)
      refine WP.ret ?_
      change Fin ..
      exact fin1 hT (by rfl) (by rw [formedF, selTo_bad hil hx, Bool.and_false])
     ·have hx : selB (f.sels.getD i sel0) = true := by
        simp only [bor, Bool.or_eq_false_iff, decide_eq_false_iff_not, Int.toNat_natCast] at h8
        simp only [selB, Bool.and_eq_true, decide_eq_true_eq]
        omega
      refine sk (rg [] rfl ?_)
      refine ⟨i + 1, ?_, ?_, ?_⟩
      ·exact ⟨hil, by rw [selTo, hok, hx]; rfl⟩
      ·refine em [] trivial ⟨⟨rfl, _, rfl, cvt⟩, ⟨rfl, _, rfl, cvt⟩, ⟨rfl, _, rfl, cvt⟩, trivial⟩ trivial
      ·(try simp only []); first | omega | grind
    ·have hil : i = f.sels.length := by simp at h6; omega
     subst hil
     refine xt (sq (rg [] rfl ?_))
     refine WP.ret ?_
     change Fin ..
     exact fin1 hT (by rfl) (by rw [formedF, hb, hok]; rfl)
end Go.Ab


/- Selects. -/
set_option autoImplicit false
set_option maxRecDepth 20000
set_option maxHeartbeats 4000000
set_option linter.unusedSimpArgs false
set_option linter.unusedVariables false
namespace Go.Ab
open Go.Proofs
theorem selTo_at {f : PFun} : ∀ {n : Nat}, selTo f n = true → ∀ i, i < n → selB (f.sels.getD i sel0) = true
  | n + 1, h, i, hi => by
    rw [selTo, Bool.and_eq_true] at h
    by_cases e : i = n
    · subst e; exact h.2
    · exact selTo_at h.1 i (by omega)
def caseF (p : PProg) (f : PFun) (c : PCase) : Int :=
  if objF c.chan p.chans.length ≠ 0 then 36 else if (c.send || c.reg != -1) = true ∧ regF f c.reg ≠ 0 then 35 else
  if (c.send && p.chans.getD c.chan.toNat 0 == 0) = true then 37 else tgtF f c.to
def elseF (f : PFun) (s : PSel) : Int := if s.els ≠ -1 then tgtF f s.els else 0
def selF (p : PProg) (f : PFun) (s : PSel) : Int := if fstE (caseF p f) s.cases ≠ 0 then fstE (caseF p f) s.cases else elseF f s
def selsF (p : PProg) (f : PFun) : Int := fstE (selF p f) f.sels
abbrev selAt (f : PFun) (i : Nat) : PSel := f.sels.getD i sel0
abbrev caseAt (s : PSel) (k : Nat) : PCase := s.cases.getD k case0
theorem selF_case {p : PProg} {f : PFun} {s : PSel} {k : Nat} {e : Int} (hk : k < s.cases.length) (hn : ∀ j, j < k → caseF p f (caseAt s j) = 0) (he : caseF p f (caseAt s k) = e) (h0 : e ≠ 0) : selF p f s = e := by
  subst he
  have := fstE_at hk hn h0
  rw [selF, this, if_pos h0]
theorem sels_case {p : PProg} {f : PFun} {i : Nat} {e : Int} (hi : i < f.sels.length) (hn : ∀ j, j < i → selF p f (selAt f j) = 0) (he : selF p f (selAt f i) = e) (h0 : e ≠ 0) : selsF p f = e := by
  subst he
  rw [selsF, fstE_at hi hn h0]
theorem objF_bad {n m : Int} (h : objF n m ≠ 0) : objF n m = 36 := by
  unfold objF at h ⊢
  split
  · rename_i hw; rw [if_pos hw] at h; exact absurd rfl h
  · rfl
theorem regF_bad {f : PFun} {n : Int} (h : regF f n ≠ 0) : regF f n = 35 := by
  unfold regF at h ⊢
  split
  · rename_i hw; rw [if_pos hw] at h; exact absurd rfl h
  · rfl
theorem selects_ac (p : PProg) (f : PFun) (m : Bool) (hf : formedF f m = true) : AC Tryz.prog T tysN 133 [.rp 196 (encCk p f)] [] (.int (selsF p f)) [] := by
 refine AC_intro hT Tryz.func133 rfl rfl (Nat.le_of_ble_eq_true rfl) ?_
 have hsz : szF f m = true := by rw [formedF, Bool.and_eq_true] at hf; exact hf.1
 have hst : selTo f f.sels.length = true := by rw [formedF, Bool.and_eq_true] at hf; exact hf.2
 rw [szF_iff] at hsz
 refine sq (rg [] rfl ?_)
 refine sq (sq (rg [] rfl ?_))
 refine bk ?_
 refine WP.loop (α := Nat) (fun i => mkSt [(0, .rp 196 (encCk p f)), (15, rowP 221 encSel sel0 f.sels), (16, .int f.sels.length), (17, .int i)] []) (fun i => i ≤ f.sels.length ∧ ∀ j, j < i → selF p f (selAt f j) = 0) (fun i => f.sels.length - i) ?_ ?_
 ·refine ⟨0, ?_, ?_⟩
  ·exact ⟨Nat.zero_le _, fun j hj => by omega⟩
  ·refine em [] trivial ⟨⟨rfl, _, rfl, cvt⟩, ⟨rfl, _, rfl, cvt⟩, ⟨rfl, _, rfl, cvt⟩, ⟨rfl, _, rfl, cvt⟩, trivial⟩ trivial
 ·rintro i ⟨hi, hn⟩
  refine sq (rg [] rfl ?_)
  refine sq ?_
  refine cd rfl (fun h2 => ?_) (fun h2 => ?_)
  ·have hil : i < f.sels.length := by simpa using h2
   have hsb := selTo_at hst i hil
   have hcl : (selAt f i).cases.length ≤ 4 := by
     simp only [selB, Bool.and_eq_true, decide_eq_true_eq] at hsb
     simp only [selAt]; omega
   refine sk (sq (bk (sq (rgs [] rfl ?_ ?_))))
   ·simp [holdsC, under]; omega
   refine sq (sq (rg [] rfl ?_))
   refine bk ?_
   refine WP.loop (α := Nat) (fun k => mkSt [(0, .rp 196 (encCk p f)), (4, .rp 221 (encSel (selAt f i))), (15, rowP 221 encSel sel0 f.sels), (16, .int f.sels.length), (17, .int i), (22, rowP 223 encCase case0 (selAt f i).cases), (23, .int (selAt f i).cases.length), (24, .int k)] []) (fun k => k ≤ (selAt f i).cases.length ∧ ∀ j, j < k → caseF p f (caseAt (selAt f i) j) = 0) (fun k => (selAt f i).cases.length - k) ?_ ?_
   ·refine ⟨0, ?_, ?_⟩
    ·exact ⟨Nat.zero_le _, fun j hj => by omega⟩
    ·refine em [(.s 4 0, 1)] ⟨⟨_, rfl, Nat.le_refl _⟩, trivial⟩ ⟨⟨rfl, _, rfl, cvt⟩, ⟨rfl, _, rfl, conv_rpe rfl rfl (by decide) rfl rfl rfl⟩, ⟨rfl, _, rfl, cvt⟩, ⟨rfl, _, rfl, cvt⟩, ⟨rfl, _, rfl, cvt⟩, ⟨rfl, _, rfl, cvt⟩, ⟨rfl, _, rfl, cvt⟩, ⟨rfl, _, rfl, cvt⟩, trivial⟩ trivial
   ·rintro k ⟨hk, hc⟩
    refine sq (rg [] rfl ?_)
    refine sq ?_
    refine cd rfl (fun h5 => ?_) (fun h5 => ?_)
    ·have hkl : k < (selAt f i).cases.length := by simpa using h5
     refine sk (sq (bk (sq (rgs [] rfl ?_ ?_))))
     ·have hkl2 : k < (f.sels[i]?.getD sel0).cases.length := hkl
      simp [holdsC, under]; omega
     refine sq (sq (drs [CG.pure (.int (objF (caseAt (selAt f i) k).chan p.chans.length))] rfl ?_ ?_))
     ·have ho := object_ac (caseAt (selAt f i) k).chan p.chans.length
      refine ⟨⟨rfl, rfl⟩, ?_⟩
      exact ho
     refine sq (rg [] rfl ?_)
     refine cd rfl (fun h8 => ?_) (fun h8 => ?_)
     ·have hb : objF (caseAt (selAt f i) k).chan p.chans.length ≠ 0 := by simpa using h8
      refine sq (rg [] rfl ?_)
      refine WP.ret ?_
      change Fin ..
      refine finI hT (by rfl) ?_
      rw [objF_bad hb, sels_case hil hn (selF_case hkl hc (by rw [caseF, if_pos hb]) (by decide)) (by decide)]
     ·have hb : objF (caseAt (selAt f i) k).chan p.chans.length = 0 := by simpa using h8
      have hch := objF_ok hb
      refine sk (sq (sq (rg [] rfl ?_)))
      refine cd rfl (fun h10 => ?_) (fun h10 => ?_)
      ·have hsr : ((caseAt (selAt f i) k).send || (caseAt (selAt f i) k).reg != -1) = true := by
         have e : (bif (caseAt (selAt f i) k).send then true else (caseAt (selAt f i) k).reg != -1) = true := h10
         rwa [bor] at e
       refine sq (rgs [CG.pure (.int (regF f (caseAt (selAt f i) k).reg))] rfl ?_ ?_)
       ·have ho := register_ac p f (caseAt (selAt f i) k).reg
        refine ⟨⟨rfl, rfl⟩, ?_⟩
        exact ho
       refine sq (rg [] rfl ?_)
       refine cd rfl (fun h12 => ?_) (fun h12 => ?_)
       ·have hr : regF f (caseAt (selAt f i) k).reg ≠ 0 := by simpa using h12
        refine sq (rg [] rfl ?_)
        refine WP.ret ?_
        change Fin ..
        refine finI hT (by rfl) ?_
        rw [regF_bad hr, sels_case hil hn (selF_case hkl hc (by rw [caseF, if_neg (fun h => h hb), if_pos ⟨hsr, hr⟩]) (by decide)) (by decide)]
       ·have hr : ¬ (((caseAt (selAt f i) k).send || (caseAt (selAt f i) k).reg != -1) = true ∧ regF f (caseAt (selAt f i) k).reg ≠ 0) := fun h => h.2 (by simpa using h12)
        refine sk (sq (sq (drs [] rfl ?_ ?_)))
        ·simp only [selAt, caseAt, List.getD_eq_getElem?_getD] at hch
         simp [holdsC, under]
         exact fun _ => hch
        refine cd rfl (fun h14 => ?_) (fun h14 => ?_)
        ·have hz : ((caseAt (selAt f i) k).send && p.chans.getD (caseAt (selAt f i) k).chan.toNat 0 == 0) = true := by
           have e : (bif (caseAt (selAt f i) k).send then p.chans.getD (caseAt (selAt f i) k).chan.toNat 0 == 0 else false) = true := h14
           rwa [band] at e
         refine sq (rg [] rfl ?_)
         refine WP.ret ?_
         change Fin ..
         refine finI hT (by rfl) ?_
         rw [sels_case hil hn (selF_case hkl hc (by rw [caseF, if_neg (fun h => h hb), if_neg hr, if_pos hz]) (by decide)) (by decide)]
        ·have hz : ¬ ((caseAt (selAt f i) k).send && p.chans.getD (caseAt (selAt f i) k).chan.toNat 0 == 0) = true := by
           have e : (bif (caseAt (selAt f i) k).send then p.chans.getD (caseAt (selAt f i) k).chan.toNat 0 == 0 else false) = false := h14
           rw [band] at e
           rw [e]; decide
         have hcf : caseF p f (caseAt (selAt f i) k) = tgtF f (caseAt (selAt f i) k).to := by rw [caseF, if_neg (fun h => h hb), if_neg hr, if_neg hz]
         refine sk (sq (rgs [CG.pure (.int (tgtF f (caseAt (selAt f i) k).to))] rfl ?_ ?_))
         ·have ho := target_ac p f (caseAt (selAt f i) k).to
          refine ⟨⟨rfl, rfl⟩, ?_⟩
          exact ho
         refine sq (rg [] rfl ?_)
         refine cd rfl (fun h17 => ?_) (fun h17 => ?_)
         ·have ht : tgtF f (caseAt (selAt f i) k).to ≠ 0 := by simpa using h17
          refine sq (rg [] rfl ?_)
          refine WP.ret ?_
          change Fin ..
          refine finI hT (by rfl) ?_
          rw [sels_case hil hn (selF_case hkl hc hcf ht) ht]
         ·have ht : tgtF f (caseAt (selAt f i) k).to = 0 := by simpa using h17
          refine sk (rg [] rfl ?_)
          refine ⟨k + 1, ?_, ?_, ?_⟩
          ·exact ⟨hkl, below_succ hc (by rw [hcf, ht])⟩
          ·refine em [] trivial ⟨⟨rfl, _, rfl, cvt⟩, ⟨rfl, _, rfl, cvt⟩, ⟨rfl, _, rfl, cvt⟩, ⟨rfl, _, rfl, cvt⟩, ⟨rfl, _, rfl, cvt⟩, ⟨rfl, _, rfl, cvt⟩, ⟨rfl, _, rfl, cvt⟩, ⟨rfl, _, rfl, cvt⟩, trivial⟩ trivial
          ·(try simp only []); first | omega | grind
      ·have hr : ¬ (((caseAt (selAt f i) k).send || (caseAt (selAt f i) k).reg != -1) = true ∧ regF f (caseAt (selAt f i) k).reg ≠ 0) := by
         have e : (bif (caseAt (selAt f i) k).send then true else (caseAt (selAt f i) k).reg != -1) = false := h10
         rw [bor] at e
         rw [e]; simp
       refine sk (sq (sq (drs [] rfl ?_ ?_)))
       ·simp only [selAt, caseAt, List.getD_eq_getElem?_getD] at hch
        simp [holdsC, under]
        exact fun _ => hch
       refine cd rfl (fun h14 => ?_) (fun h14 => ?_)
       ·have hz : ((caseAt (selAt f i) k).send && p.chans.getD (caseAt (selAt f i) k).chan.toNat 0 == 0) = true := by
          have e : (bif (caseAt (selAt f i) k).send then p.chans.getD (caseAt (selAt f i) k).chan.toNat 0 == 0 else false) = true := h14
          rwa [band] at e
        refine sq (rg [] rfl ?_)
        refine WP.ret ?_
        change Fin ..
        refine finI hT (by rfl) ?_
        rw [sels_case hil hn (selF_case hkl hc (by rw [caseF, if_neg (fun h => h hb), if_neg hr, if_pos hz]) (by decide)) (by decide)]
       ·have hz : ¬ ((caseAt (selAt f i) k).send && p.chans.getD (caseAt (selAt f i) k).chan.toNat 0 == 0) = true := by
          have e : (bif (caseAt (selAt f i) k).send then p.chans.getD (caseAt (selAt f i) k).chan.toNat 0 == 0 else false) = false := h14
          rw [band] at e
          rw [e]; decide
        have hcf : caseF p f (caseAt (selAt f i) k) = tgtF f (caseAt (selAt f i) k).to := by rw [caseF, if_neg (fun h => h hb), if_neg hr, if_neg hz]
        refine sk (sq (rgs [CG.pure (.int (tgtF f (caseAt (selAt f i) k).to))] rfl ?_ ?_))
        ·have ho := target_ac p f (caseAt (selAt f i) k).to
         refine ⟨⟨rfl, rfl⟩, ?_⟩
         exact ho
        refine sq (rg [] rfl ?_)
        refine cd rfl (fun h17 => ?_) (fun h17 => ?_)
        ·have ht : tgtF f (caseAt (selAt f i) k).to ≠ 0 := by simpa using h17
         refine sq (rg [] rfl ?_)
         refine WP.ret ?_
         change Fin ..
         refine finI hT (by rfl) ?_
         rw [sels_case hil hn (selF_case hkl hc hcf ht) ht]
        ·have ht : tgtF f (caseAt (selAt f i) k).to = 0 := by simpa using h17
         refine sk (rg [] rfl ?_)
         refine ⟨k + 1, ?_, ?_, ?_⟩
         ·exact ⟨hkl, below_succ hc (by rw [hcf, ht])⟩
         ·refine em [] trivial ⟨⟨rfl, _, rfl, cvt⟩, ⟨rfl, _, rfl, cvt⟩, ⟨rfl, _, rfl, cvt⟩, ⟨rfl, _, rfl, cvt⟩, ⟨rfl, _, rfl, cvt⟩, ⟨rfl, _, rfl, cvt⟩, ⟨rfl, _, rfl, cvt⟩, ⟨rfl, _, rfl, cvt⟩, trivial⟩ trivial
         ·(try simp only []); first | omega | grind
    ·have hkl : k = (selAt f i).cases.length := by simp only [decide_eq_false_iff_not] at h5; omega
     subst hkl
     have hsf : selF p f (selAt f i) = elseF f (selAt f i) := by rw [selF, fstE_all hc]; simp
     refine xt (sq (rg [] rfl ?_))
     refine cd rfl (fun h20 => ?_) (fun h20 => ?_)
     ·have he : (selAt f i).els ≠ -1 := by simpa using h20
      refine sq (rgs [CG.pure (.int (tgtF f (selAt f i).els))] rfl ?_ ?_)
      ·have ho := target_ac p f (selAt f i).els
       exact ho
      refine sq (rg [] rfl ?_)
      refine cd rfl (fun h22 => ?_) (fun h22 => ?_)
      ·have ht : tgtF f (selAt f i).els ≠ 0 := by simpa using h22
       refine sq (rg [] rfl ?_)
       refine WP.ret ?_
       change Fin ..
       refine finI hT (by rfl) ?_
       rw [sels_case hil hn (by rw [hsf, elseF, if_pos he]) ht]
      ·have ht : tgtF f (selAt f i).els = 0 := by simpa using h22
       refine sk (rg [] rfl ?_)
       refine ⟨i + 1, ?_, ?_, ?_⟩
       ·exact ⟨hil, below_succ hn (by rw [hsf, elseF, if_pos he, ht])⟩
       ·refine em [] trivial ⟨⟨rfl, _, rfl, cvt⟩, ⟨rfl, _, rfl, cvt⟩, ⟨rfl, _, rfl, cvt⟩, ⟨rfl, _, rfl, cvt⟩, trivial⟩ trivial
       ·(try simp only []); first | omega | grind
     ·have he : (selAt f i).els = -1 := by simpa using h20
      refine sk (rg [] rfl ?_)
      refine ⟨i + 1, ?_, ?_, ?_⟩
      ·exact ⟨hil, below_succ hn (by rw [hsf, elseF, if_neg (fun h => h he)])⟩
      ·refine em [] trivial ⟨⟨rfl, _, rfl, cvt⟩, ⟨rfl, _, rfl, cvt⟩, ⟨rfl, _, rfl, cvt⟩, ⟨rfl, _, rfl, cvt⟩, trivial⟩ trivial
      ·(try simp only []); first | omega | grind
  ·have hil : i = f.sels.length := by simp at h2; omega
   subst hil
   refine xt (sq (rg [] rfl ?_))
   refine WP.ret ?_
   change Fin ..
   exact finI hT (by rfl) (by rw [selsF, fstE_all hn])
theorem objF_w (n m : Int) : objF n m ≠ 0 ↔ withinB n m = false := by
  unfold objF; cases withinB n m <;> simp
theorem regF_w (f : PFun) (n : Int) : regF f n ≠ 0 ↔ withinB n f.regs = false := by
  unfold regF; cases withinB n f.regs <;> simp
theorem tgtF_w (f : PFun) (n : Int) : tgtF f n = if withinB n f.code.length then 0 else 38 := rfl
theorem rselects_ac (p : PProg) (f : PFun) (m : Bool) (hf : formedF f m = true) : AC Tryz.prog T tysN 112 [encProg p, encFun f] [] (.int (selsF p f)) [] := by
 refine AC_intro hT Tryz.func112 rfl rfl (Nat.le_of_ble_eq_true rfl) ?_
 have hsz : szF f m = true := by rw [formedF, Bool.and_eq_true] at hf; exact hf.1
 have hst : selTo f f.sels.length = true := by rw [formedF, Bool.and_eq_true] at hf; exact hf.2
 rw [szF_iff] at hsz
 refine sq (rg [] rfl ?_)
 refine sq (sq (rg [] rfl ?_))
 refine bk ?_
 refine WP.loop (α := Nat) (fun i => mkSt [(2, .rp 26 (encProg p)), (3, .rp 166 (encFun f)), (10, rowP 221 encSel sel0 f.sels), (11, .int f.sels.length), (12, .int i)] []) (fun i => i ≤ f.sels.length ∧ ∀ j, j < i → selF p f (selAt f j) = 0) (fun i => f.sels.length - i) ?_ ?_
 ·refine ⟨0, ?_, ?_⟩
  ·exact ⟨Nat.zero_le _, fun j hj => by omega⟩
  ·refine em [(.s 2 0, 1), (.s 3 0, 1)] ⟨⟨_, rfl, Nat.le_refl _⟩, ⟨_, rfl, Nat.le_refl _⟩, trivial⟩ ⟨⟨rfl, _, rfl, conv_rpe rfl rfl (by decide) rfl rfl rfl⟩, ⟨rfl, _, rfl, conv_rpe rfl rfl (by decide) rfl rfl rfl⟩, ⟨rfl, _, rfl, cvt⟩, ⟨rfl, _, rfl, cvt⟩, ⟨rfl, _, rfl, cvt⟩, trivial⟩ trivial
 ·rintro i ⟨hi, hn⟩
  refine sq (rg [] rfl ?_)
  refine sq ?_
  refine cd rfl (fun h2 => ?_) (fun h2 => ?_)
  ·have hil : i < f.sels.length := by simpa using h2
   have hsb := selTo_at hst i hil
   have hcl : (selAt f i).cases.length ≤ 4 := by
     simp only [selB, Bool.and_eq_true, decide_eq_true_eq] at hsb
     simp only [selAt]; omega
   refine sk (sq (bk (sq (rgs [] rfl ?_ ?_))))
   ·simp [holdsC, under]; omega
   refine sq (sq (rg [] rfl ?_))
   refine bk ?_
   refine WP.loop (α := Nat) (fun k => mkSt [(2, .rp 26 (encProg p)), (3, .rp 166 (encFun f)), (6, .rp 221 (encSel (selAt f i))), (10, rowP 221 encSel sel0 f.sels), (11, .int f.sels.length), (12, .int i), (17, rowP 223 encCase case0 (selAt f i).cases), (18, .int (selAt f i).cases.length), (19, .int k)] []) (fun k => k ≤ (selAt f i).cases.length ∧ ∀ j, j < k → caseF p f (caseAt (selAt f i) j) = 0) (fun k => (selAt f i).cases.length - k) ?_ ?_
   ·refine ⟨0, ?_, ?_⟩
    ·exact ⟨Nat.zero_le _, fun j hj => by omega⟩
    ·refine em [(.s 6 0, 1)] ⟨⟨_, rfl, Nat.le_refl _⟩, trivial⟩ ⟨⟨rfl, _, rfl, cvt⟩, ⟨rfl, _, rfl, cvt⟩, ⟨rfl, _, rfl, conv_rpe rfl rfl (by decide) rfl rfl rfl⟩, ⟨rfl, _, rfl, cvt⟩, ⟨rfl, _, rfl, cvt⟩, ⟨rfl, _, rfl, cvt⟩, ⟨rfl, _, rfl, cvt⟩, ⟨rfl, _, rfl, cvt⟩, ⟨rfl, _, rfl, cvt⟩, trivial⟩ trivial
   ·rintro k ⟨hk, hc⟩
    refine sq (rg [] rfl ?_)
    refine sq ?_
    refine cd rfl (fun h5 => ?_) (fun h5 => ?_)
    ·have hkl : k < (selAt f i).cases.length := by simpa using h5
     refine sk (sq (bk (sq (rgs [] rfl ?_ ?_))))
     ·have hkl2 : k < (f.sels[i]?.getD sel0).cases.length := hkl
      simp [holdsC, under]; omega
     refine sq (sq (rgs [CG.pure (.bool (withinB (caseAt (selAt f i) k).chan p.chans.length))] rfl ?_ ?_))
     ·have ho := rwithin_ac (caseAt (selAt f i) k).chan p.chans.length
      refine ⟨⟨rfl, rfl⟩, ?_⟩
      exact ho
     refine cd rfl (fun h7 => ?_) (fun h7 => ?_)
     ·have hb : objF (caseAt (selAt f i) k).chan p.chans.length ≠ 0 := (objF_w _ _).2 (by simpa using h7)
      refine sq (rg [] rfl ?_)
      refine WP.ret ?_
      change Fin ..
      refine finI hT (by rfl) ?_
      rw [sels_case hil hn (selF_case hkl hc (by rw [caseF, if_pos hb]) (by decide)) (by decide)]
     ·have hb : objF (caseAt (selAt f i) k).chan p.chans.length = 0 := by
        have e : withinB (caseAt (selAt f i) k).chan p.chans.length = true := by simpa using h7
        rw [objF, if_pos e]
      have hch := objF_ok hb
      refine sk (sq (sq (rgs [CG.pure (.bool (withinB (caseAt (selAt f i) k).reg f.regs))] rfl ?_ ?_)))
      ·have ho := rwithin_ac (caseAt (selAt f i) k).reg f.regs
       simp [holdsC, under, CG.pure]
       refine ⟨ho, ?_⟩
       intro a b
       simp [a, b]
      refine cd rfl (fun h9 => ?_) (fun h9 => ?_)
      ·have hr : ((caseAt (selAt f i) k).send || (caseAt (selAt f i) k).reg != -1) = true ∧ regF f (caseAt (selAt f i) k).reg ≠ 0 := by
         have e : (bif !withinB (caseAt (selAt f i) k).reg f.regs then (bif (caseAt (selAt f i) k).send then true else (caseAt (selAt f i) k).reg != -1) else false) = true := h9
         rw [band, bor, Bool.and_eq_true] at e
         exact ⟨e.2, (regF_w _ _).2 (by simpa using e.1)⟩
       refine sq (rg [] rfl ?_)
       refine WP.ret ?_
       change Fin ..
       refine finI hT (by rfl) ?_
       rw [sels_case hil hn (selF_case hkl hc (by rw [caseF, if_neg (fun h => h hb), if_pos hr]) (by decide)) (by decide)]
      ·have hr : ¬ (((caseAt (selAt f i) k).send || (caseAt (selAt f i) k).reg != -1) = true ∧ regF f (caseAt (selAt f i) k).reg ≠ 0) := by
         have e : (bif !withinB (caseAt (selAt f i) k).reg f.regs then (bif (caseAt (selAt f i) k).send then true else (caseAt (selAt f i) k).reg != -1) else false) = false := h9
         rw [band, bor] at e
         rintro ⟨a, b⟩
         rw [a, (regF_w _ _).1 b] at e
         cases e
       refine sk (sq (sq (rgs [] rfl ?_ ?_)))
       ·simp [holdsC, under]
        exact fun _ => hch
       refine cd rfl (fun h11 => ?_) (fun h11 => ?_)
       ·have hz : ((caseAt (selAt f i) k).send && p.chans.getD (caseAt (selAt f i) k).chan.toNat 0 == 0) = true := by
          have e : (bif (caseAt (selAt f i) k).send then p.chans.getD (caseAt (selAt f i) k).chan.toNat 0 == 0 else false) = true := h11
          rwa [band] at e
        refine sq (rg [] rfl ?_)
        refine WP.ret ?_
        change Fin ..
        refine finI hT (by rfl) ?_
        rw [sels_case hil hn (selF_case hkl hc (by rw [caseF, if_neg (fun h => h hb), if_neg hr, if_pos hz]) (by decide)) (by decide)]
       ·have hz : ¬ ((caseAt (selAt f i) k).send && p.chans.getD (caseAt (selAt f i) k).chan.toNat 0 == 0) = true := by
          have e : (bif (caseAt (selAt f i) k).send then p.chans.getD (caseAt (selAt f i) k).chan.toNat 0 == 0 else false) = false := h11
          rw [band] at e
          rw [e]; decide
        have hcf : caseF p f (caseAt (selAt f i) k) = tgtF f (caseAt (selAt f i) k).to := by rw [caseF, if_neg (fun h => h hb), if_neg hr, if_neg hz]
        refine sk (sq (rgs [CG.pure (.bool (withinB (caseAt (selAt f i) k).to f.code.length))] rfl ?_ ?_))
        ·have ho := rwithin_ac (caseAt (selAt f i) k).to f.code.length
         refine ⟨⟨rfl, rfl⟩, ?_⟩
         exact ho
        refine cd rfl (fun h13 => ?_) (fun h13 => ?_)
        ·have ht : tgtF f (caseAt (selAt f i) k).to = 38 := by
           have e : withinB (caseAt (selAt f i) k).to f.code.length = false := by simpa using h13
           rw [tgtF, e]; rfl
         refine sq (rg [] rfl ?_)
         refine WP.ret ?_
         change Fin ..
         refine finI hT (by rfl) ?_
         rw [sels_case hil hn (selF_case hkl hc (by rw [hcf, ht]) (by decide)) (by decide)]
        ·have ht : tgtF f (caseAt (selAt f i) k).to = 0 := by
           have e : withinB (caseAt (selAt f i) k).to f.code.length = true := by simpa using h13
           rw [tgtF, if_pos e]
         refine sk (rg [] rfl ?_)
         refine ⟨k + 1, ?_, ?_, ?_⟩
         ·exact ⟨hkl, below_succ hc (by rw [hcf, ht])⟩
         ·refine em [] trivial ⟨⟨rfl, _, rfl, cvt⟩, ⟨rfl, _, rfl, cvt⟩, ⟨rfl, _, rfl, cvt⟩, ⟨rfl, _, rfl, cvt⟩, ⟨rfl, _, rfl, cvt⟩, ⟨rfl, _, rfl, cvt⟩, ⟨rfl, _, rfl, cvt⟩, ⟨rfl, _, rfl, cvt⟩, ⟨rfl, _, rfl, cvt⟩, trivial⟩ trivial
         ·(try simp only []); first | omega | grind
    ·have hkl : k = (selAt f i).cases.length := by simp only [decide_eq_false_iff_not] at h5; omega
     subst hkl
     have hsf : selF p f (selAt f i) = elseF f (selAt f i) := by rw [selF, fstE_all hc]; simp
     refine xt (sq (rgs [CG.pure (.bool (withinB (selAt f i).els f.code.length))] rfl ?_ ?_))
     ·have ho := rwithin_ac (selAt f i).els f.code.length
      simp [holdsC, under, CG.pure]
      exact fun _ => ho
     refine cd rfl (fun h16 => ?_) (fun h16 => ?_)
     ·have he : elseF f (selAt f i) = 38 := by
        have e : (bif (selAt f i).els != -1 then !withinB (selAt f i).els f.code.length else false) = true := h16
        rw [band, Bool.and_eq_true, Bool.not_eq_true'] at e
        rw [elseF, if_pos (by simpa using e.1), tgtF, e.2]; rfl
      refine sq (rg [] rfl ?_)
      refine WP.ret ?_
      change Fin ..
      refine finI hT (by rfl) ?_
      rw [sels_case hil hn (by rw [hsf, he]) (by decide)]
     ·have he : elseF f (selAt f i) = 0 := by
        have e : (bif (selAt f i).els != -1 then !withinB (selAt f i).els f.code.length else false) = false := h16
        rw [band] at e
        rw [elseF]
        split
        · rename_i h1
          rw [show ((selAt f i).els != -1) = true by simpa using h1, Bool.true_and] at e
          rw [tgtF, if_pos (by simpa using e)]
        · rfl
      refine sk (rg [] rfl ?_)
      refine ⟨i + 1, ?_, ?_, ?_⟩
      ·exact ⟨hil, below_succ hn (by rw [hsf, he])⟩
      ·refine em [] trivial ⟨⟨rfl, _, rfl, cvt⟩, ⟨rfl, _, rfl, cvt⟩, ⟨rfl, _, rfl, cvt⟩, ⟨rfl, _, rfl, cvt⟩, ⟨rfl, _, rfl, cvt⟩, trivial⟩ trivial
      ·(try simp only []); first | omega | grind
  ·have hil : i = f.sels.length := by simp at h2; omega
   subst hil
   refine xt (sq (rg [] rfl ?_))
   refine WP.ret ?_
   change Fin ..
   exact finI hT (by rfl) (by rw [selsF, fstE_all hn])
end Go.Ab


/- Programs checked. -/
set_option autoImplicit false
set_option maxRecDepth 20000
set_option maxHeartbeats 4000000
set_option linter.unusedSimpArgs false
set_option linter.unusedVariables false
namespace Go.Ab
open Go.Proofs
/-- The place of the first thing that is wrong. -/
def fkE {α : Type} (g : α → Int) : List α → Nat
  | [] => 0
  | x :: r => if g x ≠ 0 then 0 else fkE g r + 1
theorem fkE_at {α : Type} {g : α → Int} {d : α} : ∀ {l : List α} {i : Nat}, i < l.length → (∀ j, j < i → g (l.getD j d) = 0) → g (l.getD i d) ≠ 0 → fkE g l = i
  | x :: r, 0, _, _, hb => by
    have hb' : g x ≠ 0 := hb
    rw [fkE, if_pos hb']
  | x :: r, i + 1, hi, hn, hb => by
    have h0 := hn 0 (by omega)
    rw [fkE, if_neg (by simpa using h0)]
    rw [fkE_at (l := r) (i := i) (by simpa using hi) (fun j hj => hn (j + 1) (by omega)) hb]
def spotA (a b : Int) : AV := stru 82 [.int a, .int b]
def lastO (f : PFun) : Int := (f.code.getD (f.code.length - 1) ins0).op
def endO (op : Int) : Bool := op == 42 || op == 45 || op == 61
theorem endO_1 {x : Int} (h : (x == 42) = true) : endO x = true := by rw [endO, h]; rfl
theorem endO_2 {x : Int} (h : (x == 45) = true) : endO x = true := by rw [endO, h]; simp
theorem endO_3 {x : Int} (h : (x == 61) = true) : endO x = true := by rw [endO, h]; simp
theorem endO_no {x : Int} (h1 : (x == 42) = false) (h2 : (x == 45) = false) (h3 : (x == 61) = false) : endO x = false := by rw [endO, h1, h2, h3]; rfl
def funE (p : PProg) (f : PFun) (main : Bool) : Int × Int :=
  if formedF f main = false then (32, 0) else if selsF p f ≠ 0 then (selsF p f, 0) else
  if fstE (instrF p f) f.code ≠ 0 then (fstE (instrF p f) f.code, fkE (instrF p f) f.code) else
  if endO (lastO f) then (0, 0) else (39, (f.code.length : Int) - 1)
abbrev funAt (p : PProg) (i : Nat) : PFun := p.funcs.getD i fun0
/-- From function i on. -/
def progFrom (p : PProg) : Nat → Nat → Int × Int × Int
  | 0, _ => (0, 0, 0)
  | n + 1, i => if (funE p (funAt p i) (i == 0)).1 ≠ 0 then ((funE p (funAt p i) (i == 0)).1, i, (funE p (funAt p i) (i == 0)).2) else progFrom p n (i + 1)
def checkF (p : PProg) : Int × Int × Int := if wholeF p ≠ 0 then (wholeF p, 0, 0) else progFrom p p.funcs.length 0
theorem progFrom_skip {p : PProg} : ∀ {i n : Nat}, i ≤ n → (∀ j, j < i → (funE p (funAt p j) (j == 0)).1 = 0) → progFrom p n 0 = progFrom p (n - i) i
  | 0, n, _, _ => rfl
  | i + 1, n, h, hn => by
    rw [progFrom_skip (i := i) (by omega) (fun j hj => hn j (by omega)), show n - i = (n - (i + 1)) + 1 by omega, progFrom, if_neg (fun h => h (hn i (by omega)))]
theorem check_at {p : PProg} {i : Nat} {e pc : Int} (hw : wholeF p = 0) (hi : i < p.funcs.length) (hn : ∀ j, j < i → (funE p (funAt p j) (j == 0)).1 = 0) (he : funE p (funAt p i) (i == 0) = (e, pc)) (h0 : e ≠ 0) : checkF p = (e, (i : Int), pc) := by
  rw [checkF, if_neg (by simp [hw]), progFrom_skip (Nat.le_of_lt hi) hn, show p.funcs.length - i = (p.funcs.length - i - 1) + 1 by omega, progFrom, he, if_pos h0]
theorem check_ok {p : PProg} (hw : wholeF p = 0) (hn : ∀ j, j < p.funcs.length → (funE p (funAt p j) (j == 0)).1 = 0) : checkF p = (0, 0, 0) := by
  rw [checkF, if_neg (by simp [hw]), progFrom_skip (Nat.le_refl _) hn, Nat.sub_self]; rfl
def checkA (p : PProg) : AV := .tup [.int (checkF p).1, spotA (checkF p).2.1 (checkF p).2.2]
theorem noIds_spot (a b : Int) : noIds (spotA a b) = true := rfl
theorem fin_spot {nt : Nat} {st : St} {p : PProg} {e a b : Int} {B : Blk} (hc : checkF p = (e, a, b)) (h2 : st.t 2 = some (.always, .int e)) (h3 : st.t 3 = some (.always, .ptr (.s 3 0) 1 0 [])) (hm : st.m (.s 3 0) = some (.cells B)) (hty : B.ty = 82) (hn1 : B.n = 1) (hfz : B.fz = 0) (hy : Conv st.m (fun id => lookF id []) T (B.get 0) (spotA a b)) : Fin T tysN nt 0 [.tmp 2, .cell 3 82] (checkA p) [] st := by
  obtain ⟨ty, n, get, fz⟩ := B
  simp only at hty hn1 hfz hy
  subst hty hn1 hfz
  rw [checkA, hc]
  refine Fin.ent (Ent.mk (P := Tryz.prog) hT [] (ts := [(2, .int e), (3, .ptr (.s 3 0) 1 0 [])]) (ms := [(.s 3 0, .cells ⟨82, 1, fun _ => spotA a b, 0⟩)]) trivial ⟨⟨rfl, _, h2, conv_eq rfl⟩, ⟨rfl, _, h3, conv_eq rfl⟩, trivial⟩ ⟨⟨fun _ _ => rfl, .inl ⟨_, hm, _, _, rfl, Nat.le_refl _, Nat.zero_le _, Nat.zero_le _, fun q hq => ?_⟩⟩, trivial⟩ rfl) ?_
  · obtain rfl : q = 0 := by simp at hq; exact hq
    exact hy
  · refine fin_mk hT [(.s 3 0, 1)] (ts := [(2, .int e), (3, .rp 82 (spotA a b))]) (l := [.int e, spotA a b]) ⟨⟨_, rfl, Nat.le_refl _⟩, trivial⟩ ⟨⟨rfl, _, rfl, conv_eq rfl⟩, ⟨rfl, _, rfl, ?_⟩, trivial⟩ trivial rfl rfl rfl
    exact conv_rpe rfl rfl (by simp [lookF, idbeq_self]) rfl rfl (noIds_spot a b)
theorem spot_a (a b : Int) : (AV.agg 82 2 fun q => bif Nat.beq q 1 then .int b else bif Nat.beq q 0 then .int a else [AV.int 0, AV.int 0].getD q .bad) = spotA a b := agg_ext (fun q => by match q with | 0 | 1 | q + 2 => rfl)
theorem pcheck_ac (p : PProg) : AC Tryz.prog T tysN 91 [encProg p] [] (checkA p) [] := by
 refine AC_intro hT Tryz.func91 rfl rfl (Nat.le_of_ble_eq_true rfl) ?_
 refine sq (rg [] rfl ?_)
 refine sq (sq (rgs [CG.pure (.int (wholeF p))] rfl ?_ ?_))
 ·have hw := whole_ac p
  exact ⟨rfl, hw⟩
 refine sq (rg [] rfl ?_)
 refine cd rfl (fun h2 => ?_) (fun h2 => ?_)
 ·have hw : wholeF p ≠ 0 := by simpa using h2
  refine sq (rg [] rfl ?_)
  refine WP.ret ?_
  change Fin ..
  refine fin_spot (e := wholeF p) (a := 0) (b := 0) (by rw [checkF, if_pos hw]) rfl rfl rfl rfl rfl rfl ?_
  exact conv_eq rfl
 ·have hw : wholeF p = 0 := by simpa using h2
  have hfl : p.funcs.length ≤ 8 := by
    have h1 : szB p = false := by
      unfold wholeF at hw
      split at hw
      · cases hw
      · rename_i h; simpa using h
    simp [szB] at h1; omega
  refine sk (sq (sq (rg [] rfl ?_)))
  refine bk ?_
  refine WP.loop (α := Nat) (fun i => mkSt [(1, .rp 26 (encProg p)), (3, .ptr (.s 3 0) 1 0 []), (21, rowP 166 encFun fun0 p.funcs), (22, .int p.funcs.length), (23, .int i)] [(.s 3 0, .cells ⟨82, 1, fun _ => spotA 0 0, 0⟩)]) (fun i => i ≤ p.funcs.length ∧ ∀ j, j < i → (funE p (funAt p j) (j == 0)).1 = 0) (fun i => p.funcs.length - i) ?_ ?_
  ·refine ⟨0, ?_, ?_⟩
   ·exact ⟨Nat.zero_le _, fun j hj => by omega⟩
   ·refine em [(.s 1 0, 1)] ⟨⟨_, rfl, Nat.le_refl _⟩, trivial⟩ ⟨⟨rfl, _, rfl, conv_rpe rfl rfl (by decide) rfl rfl rfl⟩, ⟨rfl, _, rfl, cvt⟩, ⟨rfl, _, rfl, cvt⟩, ⟨rfl, _, rfl, cvt⟩, ⟨rfl, _, rfl, cvt⟩, trivial⟩ ⟨obs rfl, trivial⟩
  ·rintro i ⟨hi, hn⟩
   refine sq (rg [] rfl ?_)
   refine sq ?_
   refine cd rfl (fun h5 => ?_) (fun h5 => ?_)
   ·have hil : i < p.funcs.length := by simpa using h5
    refine sk (sq (bk (sq (rgs [] rfl ?_ ?_))))
    ·simp [holdsC, under]; omega
    refine sq (sq (rgs [CG.pure (.int (if formedF (funAt p i) (i == 0) then 0 else 32))] rfl ?_ ?_))
    ·have hz := sizes_ac (funAt p i) (i == 0)
     have ei : ((i : Int) == 0) = (i == 0) := by rw [Bool.eq_iff_iff]; simp
     refine ⟨rfl, ?_⟩
     have hz2 : AC Tryz.prog T tysN 132 [encFun (funAt p i), .bool ((i : Int) == 0)] [] (.int (if formedF (funAt p i) (i == 0) then 0 else 32)) [] := by rw [ei]; exact hz
     exact hz2
    refine sq (rg [] rfl ?_)
    refine cd rfl (fun h8 => ?_) (fun h8 => ?_)
    ·have hb : formedF (funAt p i) (i == 0) = false := by
       cases hz : formedF (funAt p i) (i == 0) with
       | false => rfl
       | true => rw [hz] at h8; simp at h8
     refine sq (rg [] rfl ?_)
     refine WP.ret ?_
     change Fin ..
     exact fin_spot (e := (if formedF (funAt p i) (i == 0) then 0 else 32)) (a := i) (b := 0) (by rw [hb]; exact check_at (e := 32) hw hil hn (by rw [funE, if_pos hb]) (by decide)) rfl rfl rfl rfl rfl rfl (conv_eq (agg_ext (fun q => by match q with | 0 | 1 | q + 2 => rfl)))
    ·have hb : formedF (funAt p i) (i == 0) = true := by
       cases hz : formedF (funAt p i) (i == 0) with
       | true => rfl
       | false => rw [hz] at h8; simp at h8
     have h64 : (funAt p i).code.length ≤ 64 ∧ 1 ≤ (funAt p i).code.length := by
       have h1 : szF (funAt p i) (i == 0) = true := by
         have h2 := hb
         rw [formedF, Bool.and_eq_true] at h2
         exact h2.1
       rw [szF_iff] at h1
       omega
     refine sk (sq (rg [] rfl ?_))
     refine sq (sq ?_)
     refine WP.ent (st' := mkSt [(1, .rp 26 (encProg p)), (3, .ptr (.s 3 0) 1 0 []), (5, .int i), (6, .rp 166 (encFun (funAt p i))), (8, .rp 196 (encCk p (funAt p i))), (21, rowP 166 encFun fun0 p.funcs), (22, .int p.funcs.length), (23, .int i)] [(.s 3 0, .cells ⟨82, 1, fun _ => spotA 0 0, 0⟩)]) ?_ ?_
     ·refine em [(.s 6 0, 1), (.s 40 0, 1)] ⟨⟨_, rfl, Nat.le_refl _⟩, ⟨_, rfl, Nat.le_refl _⟩, trivial⟩ ⟨⟨rfl, _, rfl, cvt⟩, ⟨rfl, _, rfl, cvt⟩, ⟨rfl, _, rfl, cvt⟩, ⟨rfl, _, rfl, conv_rpe rfl rfl (by decide) rfl rfl rfl⟩, ⟨rfl, _, rfl, conv_rpe rfl rfl (by decide) rfl (agg_ext (fun q => by match q with | 0 | 1 | q + 2 => rfl)) rfl⟩, ⟨rfl, _, rfl, cvt⟩, ⟨rfl, _, rfl, cvt⟩, ⟨rfl, _, rfl, cvt⟩, trivial⟩ ⟨obs rfl, trivial⟩
     refine rgs [CG.pure (.int (selsF p (funAt p i)))] rfl ?_ ?_
     ·have hs := selects_ac p (funAt p i) (i == 0) hb
      exact hs
     refine sq (rg [] rfl ?_)
     refine cd rfl (fun h12 => ?_) (fun h12 => ?_)
     ·have hs : selsF p (funAt p i) ≠ 0 := by simpa using h12
      refine sq (rg [] rfl ?_)
      refine WP.ret ?_
      change Fin ..
      exact fin_spot (e := selsF p (funAt p i)) (a := i) (b := 0) (check_at hw hil hn (by rw [funE, if_neg (by rw [hb]; decide), if_pos hs]) hs) rfl rfl rfl rfl rfl rfl (conv_eq (agg_ext (fun q => by match q with | 0 | 1 | q + 2 => rfl)))
     ·have hs : selsF p (funAt p i) = 0 := by simpa using h12
      refine sk (sq (sq (rg [] rfl ?_)))
      refine bk ?_
      refine WP.loop (α := Nat) (fun k => mkSt [(1, .rp 26 (encProg p)), (3, .ptr (.s 3 0) 1 0 []), (5, .int i), (6, .rp 166 (encFun (funAt p i))), (8, .rp 196 (encCk p (funAt p i))), (21, rowP 166 encFun fun0 p.funcs), (22, .int p.funcs.length), (23, .int i), (49, rowP 162 encIns ins0 (funAt p i).code), (50, .int (funAt p i).code.length), (51, .int k)] [(.s 3 0, .cells ⟨82, 1, fun _ => spotA 0 0, 0⟩)]) (fun k => k ≤ (funAt p i).code.length ∧ ∀ j, j < k → instrF p (funAt p i) ((funAt p i).code.getD j ins0) = 0) (fun k => (funAt p i).code.length - k) ?_ ?_
      ·refine ⟨0, ?_, ?_⟩
       ·exact ⟨Nat.zero_le _, fun j hj => by omega⟩
       ·refine em [] trivial ⟨⟨rfl, _, rfl, cvt⟩, ⟨rfl, _, rfl, cvt⟩, ⟨rfl, _, rfl, cvt⟩, ⟨rfl, _, rfl, cvt⟩, ⟨rfl, _, rfl, cvt⟩, ⟨rfl, _, rfl, cvt⟩, ⟨rfl, _, rfl, cvt⟩, ⟨rfl, _, rfl, cvt⟩, ⟨rfl, _, rfl, cvt⟩, ⟨rfl, _, rfl, cvt⟩, ⟨rfl, _, rfl, cvt⟩, trivial⟩ ⟨obs rfl, trivial⟩
      ·rintro k ⟨hk, hc⟩
       refine sq (rg [] rfl ?_)
       refine sq ?_
       refine cd rfl (fun h15 => ?_) (fun h15 => ?_)
       ·have hkl : k < (funAt p i).code.length := by simpa using h15
        refine sk (sq (bk (sq (rgs [] rfl ?_ ?_))))
        ·have hkl2 : k < (p.funcs[i]?.getD fun0).code.length := hkl
         simp [holdsC, under]; omega
        refine sq (rgs [CG.pure (.int (instrF p (funAt p i) ((funAt p i).code.getD k ins0)))] rfl ?_ ?_)
        ·have hx := instr_ac p (funAt p i) ((funAt p i).code.getD k ins0)
         refine ⟨rfl, ?_⟩
         exact hx
        refine sq (rg [] rfl ?_)
        refine cd rfl (fun h18 => ?_) (fun h18 => ?_)
        ·have hx : instrF p (funAt p i) ((funAt p i).code.getD k ins0) ≠ 0 := by simpa using h18
         refine sq (rg [] rfl ?_)
         refine WP.ret ?_
         change Fin ..
         exact fin_spot (e := instrF p (funAt p i) ((funAt p i).code.getD k ins0)) (a := i) (b := k) (check_at hw hil hn (by rw [funE, if_neg (by rw [hb]; decide), if_neg (fun h => h hs), fstE_at hkl hc hx, fkE_at hkl hc hx, if_pos hx]) hx) rfl rfl rfl rfl rfl rfl (conv_eq (agg_ext (fun q => by match q with | 0 | 1 | q + 2 => rfl)))
        ·have hx : instrF p (funAt p i) ((funAt p i).code.getD k ins0) = 0 := by simpa using h18
         refine sk (rg [] rfl ?_)
         refine ⟨k + 1, ?_, ?_, ?_⟩
         ·exact ⟨hkl, below_succ hc hx⟩
         ·refine em [] trivial ⟨⟨rfl, _, rfl, cvt⟩, ⟨rfl, _, rfl, cvt⟩, ⟨rfl, _, rfl, cvt⟩, ⟨rfl, _, rfl, cvt⟩, ⟨rfl, _, rfl, cvt⟩, ⟨rfl, _, rfl, cvt⟩, ⟨rfl, _, rfl, cvt⟩, ⟨rfl, _, rfl, cvt⟩, ⟨rfl, _, rfl, cvt⟩, ⟨rfl, _, rfl, cvt⟩, ⟨rfl, _, rfl, cvt⟩, trivial⟩ ⟨obs rfl, trivial⟩
         ·(try simp only []); first | omega | grind
       ·have hkl : k = (funAt p i).code.length := by simp only [decide_eq_false_iff_not] at h15; omega
        subst hkl
        refine xt (sq (rg [] rfl ?_))
        refine sq (rgs [] rfl ?_ ?_)
        ·have hc64 : (p.funcs[i]?.getD fun0).code.length ≤ 64 ∧ 1 ≤ (p.funcs[i]?.getD fun0).code.length := h64
         simp [holdsC, under]
         rw [wrap_id (by omega) (by omega)]
         omega
        refine bk (sq (sq ?_))
        have hlst : (funAt p i).code.getD (IntKind.i64.wrap (((funAt p i).code.length : Int) - 1)).toNat ins0 = (funAt p i).code.getD ((funAt p i).code.length - 1) ins0 := by
          rw [wrap_id (by omega) (by omega)]
          congr 1
          omega
        have ho : ((funAt p i).code.getD (IntKind.i64.wrap (((funAt p i).code.length : Int) - 1)).toNat ins0).op = lastO (funAt p i) := by rw [hlst]; rfl
        refine rg [] rfl ?_
        refine cd rfl (fun h24 => ?_) (fun h24 => ?_)
        ·refine sk ?_
         refine cd rfl (fun h24 => ?_) (fun h24 => ?_)
         ·refine sk (rg [] rfl ?_)
          refine ⟨i + 1, ?_, ?_, ?_⟩
          ·refine ⟨hil, below_succ hn ?_⟩
           have he : endO (lastO (funAt p i)) = true := by first | exact endO_1 (by rw [← ho]; exact h24) | exact endO_2 (by rw [← ho]; exact h25) | exact endO_3 (by rw [← ho]; exact h26)
           rw [funE, if_neg (by rw [hb]; decide), if_neg (fun h => h hs), if_neg (fun h => h (fstE_all hc)), if_pos he]
          ·refine em [] trivial ⟨⟨rfl, _, rfl, cvt⟩, ⟨rfl, _, rfl, cvt⟩, ⟨rfl, _, rfl, cvt⟩, ⟨rfl, _, rfl, cvt⟩, ⟨rfl, _, rfl, cvt⟩, trivial⟩ ⟨obs rfl, trivial⟩
          ·(try simp only []); first | omega | grind
         ·simp_all
        ·refine sq (rg [] rfl ?_)
         refine cd rfl (fun h25 => ?_) (fun h25 => ?_)
         ·refine sk ?_
          refine cd rfl (fun h25 => ?_) (fun h25 => ?_)
          ·refine sk (rg [] rfl ?_)
           refine ⟨i + 1, ?_, ?_, ?_⟩
           ·refine ⟨hil, below_succ hn ?_⟩
            have he : endO (lastO (funAt p i)) = true := by first | exact endO_1 (by rw [← ho]; exact h24) | exact endO_2 (by rw [← ho]; exact h25) | exact endO_3 (by rw [← ho]; exact h26)
            rw [funE, if_neg (by rw [hb]; decide), if_neg (fun h => h hs), if_neg (fun h => h (fstE_all hc)), if_pos he]
           ·refine em [] trivial ⟨⟨rfl, _, rfl, cvt⟩, ⟨rfl, _, rfl, cvt⟩, ⟨rfl, _, rfl, cvt⟩, ⟨rfl, _, rfl, cvt⟩, ⟨rfl, _, rfl, cvt⟩, trivial⟩ ⟨obs rfl, trivial⟩
           ·(try simp only []); first | omega | grind
          ·simp_all
         ·refine rg [] rfl ?_
          refine cd rfl (fun h26 => ?_) (fun h26 => ?_)
          ·refine sk (rg [] rfl ?_)
           refine ⟨i + 1, ?_, ?_, ?_⟩
           ·refine ⟨hil, below_succ hn ?_⟩
            have he : endO (lastO (funAt p i)) = true := by first | exact endO_1 (by rw [← ho]; exact h24) | exact endO_2 (by rw [← ho]; exact h25) | exact endO_3 (by rw [← ho]; exact h26)
            rw [funE, if_neg (by rw [hb]; decide), if_neg (fun h => h hs), if_neg (fun h => h (fstE_all hc)), if_pos he]
           ·refine em [] trivial ⟨⟨rfl, _, rfl, cvt⟩, ⟨rfl, _, rfl, cvt⟩, ⟨rfl, _, rfl, cvt⟩, ⟨rfl, _, rfl, cvt⟩, ⟨rfl, _, rfl, cvt⟩, trivial⟩ ⟨obs rfl, trivial⟩
           ·(try simp only []); first | omega | grind
          ·refine sq (rg [] rfl ?_)
           refine WP.ret ?_
           change Fin ..
           have he : endO (lastO (funAt p i)) = false := endO_no (by rw [← ho]; exact h24) (by rw [← ho]; exact h25) (by rw [← ho]; exact h26)
           exact fin_spot (e := 39) (a := i) (b := IntKind.i64.wrap (((funAt p i).code.length : Int) - 1)) (by
             rw [wrap_id (by omega) (by omega)]
             exact check_at hw hil hn (by rw [funE, if_neg (by rw [hb]; decide), if_neg (fun h => h hs), if_neg (fun h => h (fstE_all hc)), if_neg (by rw [he]; decide)]) (by decide)) rfl rfl rfl rfl rfl rfl (conv_eq (agg_ext (fun q => by match q with | 0 | 1 | q + 2 => rfl)))
   ·have hil : i = p.funcs.length := by simp at h5; omega
    subst hil
    refine xt (sq (rg [] rfl ?_))
    refine WP.ret ?_
    change Fin ..
    exact fin_spot (e := 0) (a := 0) (b := 0) (check_ok hw hn) rfl rfl rfl rfl rfl rfl (conv_eq rfl)
end Go.Ab


/- The reference: programs checked. -/
set_option autoImplicit false
set_option maxRecDepth 20000
set_option maxHeartbeats 4000000
set_option linter.unusedSimpArgs false
set_option linter.unusedVariables false
namespace Go.Ab
open Go.Proofs
theorem rpcheck_ac (p : PProg) : AC Tryz.prog T tysN 71 [encProg p] [] (checkA p) [] := by
 refine AC_intro hT Tryz.func71 rfl rfl (Nat.le_of_ble_eq_true rfl) ?_
 refine sq (rg [] rfl ?_)
 refine sq (sq (rg [] rfl ?_))
 refine cd rfl (fun h1 => ?_) (fun h1 => ?_)
 ·have hb : szB p = true := by
    simp only [bor] at h1
    exact h1
  have hw : wholeF p = 30 := by rw [wholeF, if_pos hb]
  refine sq (rg [] rfl ?_)
  refine WP.ret ?_
  change Fin ..
  exact fin_spot (e := 30) (a := 0) (b := 0) (by rw [checkF, hw, if_pos (by decide)]) rfl rfl rfl rfl rfl rfl (conv_eq rfl)
 ·have hb0 : szB p = false := by
    simp only [bor] at h1
    exact h1
  have hcl : p.chans.length ≤ 4 ∧ p.funcs.length ≤ 8 := by
    have h9 := hb0
    simp [szB] at h9; omega
  refine sk (sq (sq (rg [] rfl ?_)))
  refine bk ?_
  refine WP.loop (α := Nat) (fun i => mkSt [(1, .rp 26 (encProg p)), (3, .ptr (.s 3 0) 1 0 []), (46, ints false p.chans), (47, .int p.chans.length), (48, .int i)] [(.s 3 0, .cells ⟨82, 1, fun _ => spotA 0 0, 0⟩)]) (fun i => i ≤ p.chans.length ∧ ∀ j, j < i → chanF (p.chans.getD j 0) = 0) (fun i => p.chans.length - i) ?_ ?_
  ·refine ⟨0, ?_, ?_⟩
   ·exact ⟨Nat.zero_le _, fun j hj => by omega⟩
   ·refine em [(.s 1 0, 1)] ⟨⟨_, rfl, Nat.le_refl _⟩, trivial⟩ ⟨⟨rfl, _, rfl, conv_rpe rfl rfl (by decide) rfl rfl rfl⟩, ⟨rfl, _, rfl, cvt⟩, ⟨rfl, _, rfl, cvt⟩, ⟨rfl, _, rfl, cvt⟩, ⟨rfl, _, rfl, cvt⟩, trivial⟩ ⟨obs rfl, trivial⟩
  ·rintro i ⟨hi, hn⟩
   refine sq (rg [] rfl ?_)
   refine sq ?_
   refine cd rfl (fun h4 => ?_) (fun h4 => ?_)
   ·have hil : i < p.chans.length := by simpa using h4
    refine sk (sq (bk (sq (rgs [] rfl ?_ ?_))))
    ·simp [holdsC, under]; omega
    refine sq (rg [] rfl ?_)
    refine cd rfl (fun h6 => ?_) (fun h6 => ?_)
    ·have hx : chanF (p.chans.getD i 0) = 31 := by
       simp only [bor] at h6
       exact if_pos h6
     have hw : wholeF p = 31 := by rw [wholeF, hb0, if_neg (by simp), fstE_at hil hn (by rw [hx]; decide), hx]
     refine sq (rg [] rfl ?_)
     refine WP.ret ?_
     change Fin ..
     exact fin_spot (e := 31) (a := 0) (b := 0) (by rw [checkF, hw, if_pos (by decide)]) rfl rfl rfl rfl rfl rfl (conv_eq rfl)
    ·have hx : chanF (p.chans.getD i 0) = 0 := by
       simp only [bor] at h6
       exact if_neg (by rw [show (decide (p.chans.getD i 0 < 0) || decide (p.chans.getD i 0 > 4)) = false from h6]; decide)
     refine sk (rg [] rfl ?_)
     refine ⟨i + 1, ?_, ?_, ?_⟩
     ·exact ⟨hil, below_succ hn hx⟩
     ·refine em [] trivial ⟨⟨rfl, _, rfl, cvt⟩, ⟨rfl, _, rfl, cvt⟩, ⟨rfl, _, rfl, cvt⟩, ⟨rfl, _, rfl, cvt⟩, ⟨rfl, _, rfl, cvt⟩, trivial⟩ ⟨obs rfl, trivial⟩
     ·(try simp only []); first | omega | grind
   ·have hil : i = p.chans.length := by simp at h4; omega
    subst hil
    have hw : wholeF p = 0 := by rw [wholeF, hb0, if_neg (by simp), fstE_all hn]
    clear hn hi
    have hfl := hcl.2
    refine xt (sq (sq (rg [] rfl ?_)))
    refine bk ?_
    refine WP.loop (α := Nat) (fun i => mkSt [(1, .rp 26 (encProg p)), (3, .ptr (.s 3 0) 1 0 []), (61, rowP 166 encFun fun0 p.funcs), (62, .int p.funcs.length), (63, .int i)] [(.s 3 0, .cells ⟨82, 1, fun _ => spotA 0 0, 0⟩)]) (fun i => i ≤ p.funcs.length ∧ ∀ j, j < i → (funE p (funAt p j) (j == 0)).1 = 0) (fun i => p.funcs.length - i) ?_ ?_
    ·refine ⟨0, ?_, ?_⟩
     ·exact ⟨Nat.zero_le _, fun j hj => by omega⟩
     ·refine em [] trivial ⟨⟨rfl, _, rfl, cvt⟩, ⟨rfl, _, rfl, cvt⟩, ⟨rfl, _, rfl, cvt⟩, ⟨rfl, _, rfl, cvt⟩, ⟨rfl, _, rfl, cvt⟩, trivial⟩ ⟨obs rfl, trivial⟩
    ·rintro i ⟨hi, hn⟩
     refine sq (rg [] rfl ?_)
     refine sq ?_
     refine cd rfl (fun h10 => ?_) (fun h10 => ?_)
     ·have hil : i < p.funcs.length := by simpa using h10
      refine sk (sq (bk (sq (rgs [] rfl ?_ ?_))))
      ·simp [holdsC, under]; omega
      refine sq (sq (rgs [CG.pure (.bool (formedF (funAt p i) (i == 0)))] rfl ?_ ?_))
      ·have hz := formed_ac i (funAt p i)
       refine ⟨rfl, ?_⟩
       exact hz
      refine cd rfl (fun h12 => ?_) (fun h12 => ?_)
      ·have hb : formedF (funAt p i) (i == 0) = false := by simpa using h12
       refine sq (rg [] rfl ?_)
       refine WP.ret ?_
       change Fin ..
       exact fin_spot (e := 32) (a := i) (b := 0) (check_at (e := 32) hw hil hn (by rw [funE, if_pos hb]) (by decide)) rfl rfl rfl rfl rfl rfl (conv_eq (agg_ext (fun q => by match q with | 0 | 1 | q + 2 => rfl)))
      ·have hb : formedF (funAt p i) (i == 0) = true := by simpa using h12
       have h64 : (funAt p i).code.length ≤ 64 ∧ 1 ≤ (funAt p i).code.length := by
         have h1 : szF (funAt p i) (i == 0) = true := by
           have h2 := hb
           rw [formedF, Bool.and_eq_true] at h2
           exact h2.1
         rw [szF_iff] at h1
         omega
       refine sk (sq (rgs [CG.pure (.int (selsF p (funAt p i)))] rfl ?_ ?_))
       ·have hs := rselects_ac p (funAt p i) (i == 0) hb
        refine ⟨rfl, ?_⟩
        exact hs
       refine sq (sq (rg [] rfl ?_))
       refine cd rfl (fun h15 => ?_) (fun h15 => ?_)
       ·have hs : selsF p (funAt p i) ≠ 0 := by simpa using h15
        refine sq (rg [] rfl ?_)
        refine WP.ret ?_
        change Fin ..
        exact fin_spot (e := selsF p (funAt p i)) (a := i) (b := 0) (check_at hw hil hn (by rw [funE, if_neg (by rw [hb]; decide), if_pos hs]) hs) rfl rfl rfl rfl rfl rfl (conv_eq (agg_ext (fun q => by match q with | 0 | 1 | q + 2 => rfl)))
       ·have hs : selsF p (funAt p i) = 0 := by simpa using h15
        refine sk (sq (sq (rg [] rfl ?_)))
        refine bk ?_
        refine WP.loop (α := Nat) (fun k => mkSt [(1, .rp 26 (encProg p)), (3, .ptr (.s 3 0) 1 0 []), (6, .int i), (7, .rp 166 (encFun (funAt p i))), (61, rowP 166 encFun fun0 p.funcs), (62, .int p.funcs.length), (63, .int i), (83, rowP 162 encIns ins0 (funAt p i).code), (84, .int (funAt p i).code.length), (85, .int k)] [(.s 3 0, .cells ⟨82, 1, fun _ => spotA 0 0, 0⟩)]) (fun k => k ≤ (funAt p i).code.length ∧ ∀ j, j < k → instrF p (funAt p i) ((funAt p i).code.getD j ins0) = 0) (fun k => (funAt p i).code.length - k) ?_ ?_
        ·refine ⟨0, ?_, ?_⟩
         ·exact ⟨Nat.zero_le _, fun j hj => by omega⟩
         ·refine em [(.s 7 0, 1)] ⟨⟨_, rfl, Nat.le_refl _⟩, trivial⟩ ⟨⟨rfl, _, rfl, cvt⟩, ⟨rfl, _, rfl, cvt⟩, ⟨rfl, _, rfl, cvt⟩, ⟨rfl, _, rfl, conv_rpe rfl rfl (by decide) rfl rfl rfl⟩, ⟨rfl, _, rfl, cvt⟩, ⟨rfl, _, rfl, cvt⟩, ⟨rfl, _, rfl, cvt⟩, ⟨rfl, _, rfl, cvt⟩, ⟨rfl, _, rfl, cvt⟩, ⟨rfl, _, rfl, cvt⟩, trivial⟩ ⟨obs rfl, trivial⟩
        ·rintro k ⟨hk, hc⟩
         refine sq (rg [] rfl ?_)
         refine sq ?_
         refine cd rfl (fun h18 => ?_) (fun h18 => ?_)
         ·have hkl : k < (funAt p i).code.length := by simpa using h18
          refine sk (sq (bk (sq (rgs [] rfl ?_ ?_))))
          ·have hkl2 : k < (p.funcs[i]?.getD fun0).code.length := hkl
           simp [holdsC, under]; omega
          refine sq (rgs [CG.pure (.int (instrF p (funAt p i) ((funAt p i).code.getD k ins0)))] rfl ?_ ?_)
          ·have hx := rinstr_ac p (funAt p i) ((funAt p i).code.getD k ins0)
           refine ⟨rfl, ?_⟩
           exact hx
          refine sq (rg [] rfl ?_)
          refine cd rfl (fun h21 => ?_) (fun h21 => ?_)
          ·have hx : instrF p (funAt p i) ((funAt p i).code.getD k ins0) ≠ 0 := by simpa using h21
           refine sq (rg [] rfl ?_)
           refine WP.ret ?_
           change Fin ..
           exact fin_spot (e := instrF p (funAt p i) ((funAt p i).code.getD k ins0)) (a := i) (b := k) (check_at hw hil hn (by rw [funE, if_neg (by rw [hb]; decide), if_neg (fun h => h hs), fstE_at hkl hc hx, fkE_at hkl hc hx, if_pos hx]) hx) rfl rfl rfl rfl rfl rfl (conv_eq (agg_ext (fun q => by match q with | 0 | 1 | q + 2 => rfl)))
          ·have hx : instrF p (funAt p i) ((funAt p i).code.getD k ins0) = 0 := by simpa using h21
           refine sk (rg [] rfl ?_)
           refine ⟨k + 1, ?_, ?_, ?_⟩
           ·exact ⟨hkl, below_succ hc hx⟩
           ·refine em [] trivial ⟨⟨rfl, _, rfl, cvt⟩, ⟨rfl, _, rfl, cvt⟩, ⟨rfl, _, rfl, cvt⟩, ⟨rfl, _, rfl, cvt⟩, ⟨rfl, _, rfl, cvt⟩, ⟨rfl, _, rfl, cvt⟩, ⟨rfl, _, rfl, cvt⟩, ⟨rfl, _, rfl, cvt⟩, ⟨rfl, _, rfl, cvt⟩, ⟨rfl, _, rfl, cvt⟩, trivial⟩ ⟨obs rfl, trivial⟩
           ·(try simp only []); first | omega | grind
         ·have hkl : k = (funAt p i).code.length := by simp only [decide_eq_false_iff_not] at h18; omega
          subst hkl
          have ho : ((funAt p i).code.getD (IntKind.i64.wrap (((funAt p i).code.length : Int) - 1)).toNat ins0).op = lastO (funAt p i) := by
            have hlst : (funAt p i).code.getD (IntKind.i64.wrap (((funAt p i).code.length : Int) - 1)).toNat ins0 = (funAt p i).code.getD ((funAt p i).code.length - 1) ins0 := by
              rw [wrap_id (by omega) (by omega)]
              congr 1
              omega
            rw [hlst]; rfl
          refine xt (sq (rgs [] rfl ?_ ?_))
          ·have hc64 : (p.funcs[i]?.getD fun0).code.length ≤ 64 ∧ 1 ≤ (p.funcs[i]?.getD fun0).code.length := h64
           simp [holdsC, under]
           rw [wrap_id (by omega) (by omega)]
           omega
          refine sq (rg [] rfl ?_)
          refine cd rfl (fun h25 => ?_) (fun h25 => ?_)
          ·have he : endO (lastO (funAt p i)) = false := by
             simp only [band, Bool.and_eq_true, bne_iff_ne] at h25
             rw [← ho]
             exact endO_no (by simpa using h25.1.1) (by simpa using h25.1.2) (by simpa using h25.2)
           refine sq (dr [] rfl ?_)
           refine WP.ret ?_
           change Fin ..
           exact fin_spot (e := 39) (a := i) (b := IntKind.i64.wrap (((funAt p i).code.length : Int) - 1)) (by
             rw [wrap_id (by omega) (by omega)]
             exact check_at hw hil hn (by rw [funE, if_neg (by rw [hb]; decide), if_neg (fun h => h hs), if_neg (fun h => h (fstE_all hc)), if_neg (by rw [he]; decide)]) (by decide)) rfl rfl rfl rfl rfl rfl (conv_eq (agg_ext (fun q => by match q with | 0 | 1 | q + 2 => rfl)))
          ·have he : endO (lastO (funAt p i)) = true := by
             rw [← ho]
             have e := h25
             simp only [band] at e
             cases hz : endO ((funAt p i).code.getD (IntKind.i64.wrap (((funAt p i).code.length : Int) - 1)).toNat ins0).op with
             | true => rfl
             | false =>
               exfalso
               simp only [endO, Bool.or_eq_false_iff] at hz
               simp only [bne, hz.1.1, hz.1.2, hz.2] at e
               cases e
           refine sk (rg [] rfl ?_)
           refine ⟨i + 1, ?_, ?_, ?_⟩
           ·refine ⟨hil, below_succ hn ?_⟩
            rw [funE, if_neg (by rw [hb]; decide), if_neg (fun h => h hs), if_neg (fun h => h (fstE_all hc)), if_pos he]
           ·refine em [] trivial ⟨⟨rfl, _, rfl, cvt⟩, ⟨rfl, _, rfl, cvt⟩, ⟨rfl, _, rfl, cvt⟩, ⟨rfl, _, rfl, cvt⟩, ⟨rfl, _, rfl, cvt⟩, trivial⟩ ⟨obs rfl, trivial⟩
           ·(try simp only []); first | omega | grind
     ·have hil : i = p.funcs.length := by simp at h10; omega
      subst hil
      refine xt (sq (rg [] rfl ?_))
      refine WP.ret ?_
      change Fin ..
      exact fin_spot (e := 0) (a := 0) (b := 0) (check_ok hw hn) rfl rfl rfl rfl rfl rfl (conv_eq rfl)
theorem right_ac (p : PProg) : AC Tryz.prog T tysN 28 [encProg p] [] (.bool ((checkF p).1 == 0)) [] := by
 refine AC_intro hT Tryz.func28 rfl rfl (Nat.le_of_ble_eq_true rfl) ?_
 refine sq (rg [] rfl ?_)
 refine sq (rgs [CG.pure (checkA p)] rfl ?_ ?_)
 ·have hc := rpcheck_ac p
  exact ⟨⟨rfl, hc⟩, rfl, Nat.le_refl _⟩
 refine sq (rg [] rfl ?_)
 refine WP.ret ?_
 change Fin ..
 exact fin1 hT (by rfl) rfl
end Go.Ab

