/- Part 16 of a proof of a statement about the given program: an abstract machine over the model, proved sound, and contracts of the functions that the statement reaches; the last part proves the statement, for every input, with no condition. -/
import Derived.Test.YtkdnjnbocjpmfaaGreatX14
import Derived.Test.YtkdnjnbocjpmfaaGreatX13
import Derived.RangeFuncSeq
set_option linter.unusedSimpArgs false
set_option linter.unusedVariables false
/- Small things; SameInts. -/
set_option autoImplicit false
namespace Go.Ab
open Go.Proofs
def ints (f : Bool) (l : List Int) : AV := .row 3 f l.length (fun i => .int (l.getD i 0))
/-- Equal up to a place. -/
def eqTo (a b : List Int) (i : Nat) : Prop := ∀ j, j < i → a.getD j 0 = b.getD j 0
theorem sameInts_ac (f g : Bool) (a b : List Int) : AC Tryz.prog T tysN 26 [ints f a, ints g b] [] (.bool (decide (a = b))) [] := by
  refine AC_intro hT Tryz.func26 rfl rfl (Nat.le_of_ble_eq_true rfl) ?_
  refine WP.rowlen 0 rfl (fun hla => ?_)
  refine WP.seq (WP.reg hT hE [] rfl ?_ ?_)
  · trivial
  dsimp only [thenP]
  refine WP.seq (WP.seq ?_)
  refine WP.reg hT hE [] rfl ?_ ?_
  · trivial
  dsimp only [thenP]
  refine WP.cond rfl (fun h => ?_) (fun h => ?_)
  · refine WP.seq (WP.reg hT hE [] rfl ?_ ?_)
    · trivial
    refine WP.ret ?_
    refine ⟨[(4, .bool (decide (a = b)))], Ent.mk hT [] trivial ⟨⟨rfl, _, rfl, conv_eq ?_⟩, trivial⟩ trivial rfl, _, rfl, trivial, rfl⟩
    have : a ≠ b := by rintro rfl; simp at h
    simp [this]
  · refine WP.skip ?_
    dsimp only [thenP]
    have hlen : a.length = b.length := by simp at h; omega
    refine WP.seq (WP.seq ?_)
    refine WP.reg hT hE [] rfl ?_ ?_
    · trivial
    dsimp only [thenP]
    refine WP.block ?_
    refine WP.loop (α := Nat) (fun i => mkSt [(0, ints f a), (1, ints g b), (12, .int a.length), (13, .int i)] []) (fun i => i ≤ a.length ∧ eqTo a b i) (fun i => a.length - i) ?_ ?_
    · refine ⟨0, ⟨Nat.zero_le _, fun j hj => by omega⟩, Ent.mk hT [] trivial ?_ trivial rfl⟩
      exact ⟨⟨rfl, _, rfl, conv_eq rfl⟩, ⟨rfl, _, rfl, conv_eq rfl⟩, ⟨rfl, _, rfl, conv_eq rfl⟩, ⟨rfl, _, rfl, conv_eq rfl⟩, trivial⟩
    · rintro i ⟨hi, heq⟩
      refine WP.seq (WP.reg hT hE [] rfl ?_ ?_)
      · trivial
      dsimp only [thenP]
      refine WP.seq (WP.cond rfl (fun h => ?_) (fun h => ?_))
      · refine WP.skip ?_
        dsimp only [thenP]
        have hil : i < a.length := by simpa using h
        refine WP.seq (WP.block ?_)
        refine WP.seq (WP.reg hT hE [] rfl ?_ ?_)
        · trivial
        dsimp only [thenP]
        refine WP.seq (WP.drw hT hE hM [] rfl ?_ ?_)
        · simp only [holdsC, under]; omega
        dsimp only [thenP]
        refine WP.cond rfl (fun h => ?_) (fun h => ?_)
        · refine WP.seq (WP.reg hT hE [] rfl ?_ ?_)
          · trivial
          refine WP.ret ?_
          refine ⟨[(4, .bool (decide (a = b)))], Ent.mk hT [] trivial ⟨⟨rfl, _, rfl, conv_eq ?_⟩, trivial⟩ trivial rfl, _, rfl, trivial, rfl⟩
          have : a ≠ b := by rintro rfl; simp at h
          simp [this]
        · refine WP.skip ?_
          dsimp only [blkP, thenP]
          refine WP.reg hT hE [] rfl ?_ ?_
          · trivial
          dsimp only [thenP]
          refine ⟨i + 1, ⟨hil, fun j hj => ?_⟩, Ent.mk hT [] trivial ?_ trivial rfl, by omega⟩
          · rcases Nat.lt_or_ge j i with hj' | hj'
            · exact heq j hj'
            · have : j = i := by omega
              subst this
              simpa using h
          · refine ⟨⟨rfl, _, rfl, conv_eq rfl⟩, ⟨rfl, _, rfl, conv_eq rfl⟩, ⟨rfl, _, rfl, conv_eq rfl⟩, ⟨rfl, _, rfl, conv_eq ?_⟩, trivial⟩
            rw [wrap_id (by omega) (by omega)]
            simp
      · refine WP.exit ?_
        dsimp only [thenP, blkP]
        have hil : i = a.length := by simp at h; omega
        refine WP.seq (WP.reg hT hE [] rfl ?_ ?_)
        · trivial
        refine WP.ret ?_
        refine ⟨[(4, .bool (decide (a = b)))], Ent.mk hT [] trivial ⟨⟨rfl, _, rfl, conv_eq ?_⟩, trivial⟩ trivial rfl, _, rfl, trivial, rfl⟩
        have : a = b := by
          refine List.ext_getElem hlen (fun j h1 h2 => ?_)
          have := heq j (by omega)
          simpa [h1, h2] using this
        simp [this]
theorem finI {P : Program} {T : Nat → TI} {N nt : Nat} (hT : TOK P T N) {t : Nat → Option (D × AV)} {m : Id → Option Ob} {k : Nat} {b r : Int} (h : t k = some (.always, .v (.int .i64 b))) (e : b = r) : Fin T N nt 0 [.tmp k] (.int r) [] ⟨t, m⟩ := by
  subst e
  refine ⟨[(k, .int b)], Ent.mk hT [] trivial ⟨⟨rfl, _, h, conv_eq rfl⟩, trivial⟩ trivial rfl, ([.int b], none), ?_, trivial, rfl⟩
  simp [resL, mkSt, lookN, notTup]
theorem bor (a b : Bool) : (bif a then true else b) = (a || b) := by cases a <;> rfl
theorem band (a b : Bool) : (bif a then b else false) = (a && b) := by cases a <;> rfl
end Go.Ab


/- Programs; what is wrong with an operand. -/
set_option autoImplicit false
set_option maxRecDepth 20000
set_option maxHeartbeats 1000000
set_option linter.unusedSimpArgs false
set_option linter.unusedVariables false
namespace Go.Ab
open Go.Proofs
structure PVar where
  atomic : Bool
  init : Int
structure PIns where
  op : Int
  a : Int
  b : Int
  c : Int
  n : Int
structure PCase where
  send : Bool
  chan : Int
  reg : Int
  to : Int
structure PSel where
  cases : List PCase
  els : Int
structure PFun where
  params : Int
  regs : Int
  code : List PIns
  sels : List PSel
structure PProg where
  vars : List PVar
  locks : Int
  chans : List Int
  funcs : List PFun
def encVar (x : PVar) : AV := stru 101 [.bool x.atomic, .int x.init]
def encIns (x : PIns) : AV := stru 162 [.int x.op, .int x.a, .int x.b, .int x.c, .int x.n]
def encCase (x : PCase) : AV := stru 223 [.bool x.send, .int x.chan, .int x.reg, .int x.to]
def rowP {α : Type} (t : Nat) (enc : α → AV) (d : α) (l : List α) : AV := .row t false l.length (fun i => enc (l.getD i d))
def case0 : PCase := ⟨false, 0, 0, 0⟩
def encSel (x : PSel) : AV := stru 221 [rowP 223 encCase case0 x.cases, .int x.els]
def ins0 : PIns := ⟨0, 0, 0, 0, 0⟩
def sel0 : PSel := ⟨[], 0⟩
def encFun (x : PFun) : AV := stru 166 [.int x.params, .int x.regs, rowP 162 encIns ins0 x.code, rowP 221 encSel sel0 x.sels]
def var0 : PVar := ⟨false, 0⟩
def fun0 : PFun := ⟨0, 0, [], []⟩
def encProg (x : PProg) : AV := stru 26 [rowP 101 encVar var0 x.vars, .int x.locks, ints false x.chans, rowP 166 encFun fun0 x.funcs]
def encCk (p : PProg) (f : PFun) : AV := stru 196 [encProg p, encFun f]
def withinB (n most : Int) : Bool := decide (n ≥ 0) && decide (n < most)
theorem within_ac (n m : Int) : AC Tryz.prog T tysN 193 [.int n, .int m] [] (.bool (withinB n m)) [] := by
  refine AC_intro hT Tryz.func193 rfl rfl (Nat.le_of_ble_eq_true rfl) ?_
  refine WP.seq ?_
  refine WP.reg hT hE [] rfl ?_ ?_
  · first | trivial | (simp [holdsC, under, slOk, slB, capEq] <;> grind)
  refine WP.seq ?_
  refine WP.reg hT hE [] rfl ?_ ?_
  · first | trivial | (simp [holdsC, under, slOk, slB, capEq] <;> grind)
  refine WP.ret ?_
  change Fin _ _ _ _ _ _ _ _
  exact fin1 hT (by rfl) (by rw [band]; rfl)
theorem rwithin_ac (n m : Int) : AC Tryz.prog T tysN 158 [.int n, .int m] [] (.bool (withinB n m)) [] := by
  refine AC_intro hT Tryz.func158 rfl rfl (Nat.le_of_ble_eq_true rfl) ?_
  refine WP.seq ?_
  refine WP.reg hT hE [] rfl ?_ ?_
  · first | trivial | (simp [holdsC, under, slOk, slB, capEq] <;> grind)
  refine WP.seq ?_
  refine WP.reg hT hE [] rfl ?_ ?_
  · first | trivial | (simp [holdsC, under, slOk, slB, capEq] <;> grind)
  refine WP.ret ?_
  change Fin _ _ _ _ _ _ _ _
  exact fin1 hT (by rfl) (by rw [band]; rfl)
def objF (n most : Int) : Int := if withinB n most then 0 else 36
def regF (f : PFun) (n : Int) : Int := if withinB n f.regs then 0 else 35
def tgtF (f : PFun) (n : Int) : Int := if withinB n f.code.length then 0 else 38
theorem object_ac (n m : Int) : AC Tryz.prog T tysN 170 [.int n, .int m] [] (.int (objF n m)) [] := by
  refine AC_intro hT Tryz.func170 rfl rfl (Nat.le_of_ble_eq_true rfl) ?_
  refine WP.seq ?_
  refine WP.reg hT hE [] rfl ?_ ?_
  · first | trivial | (simp [holdsC, under, slOk, slB, capEq] <;> grind)
  refine WP.seq ?_
  refine WP.seq ?_
  refine WP.reg hT hE [CG.pure (.bool (withinB n m))] rfl ?_ ?_
  · exact within_ac n m
  refine WP.cond rfl (fun h1 => ?_) (fun h1 => ?_)
  · have h : withinB n m = false := by simpa using h1
    refine WP.seq ?_
    refine WP.reg hT hE [] rfl ?_ ?_
    · first | trivial | (simp [holdsC, under, slOk, slB, capEq] <;> grind)
    refine WP.ret ?_
    change Fin _ _ _ _ _ _ _ _
    exact finI hT (by rfl) (by simp [objF, h])
  · have h : withinB n m = true := by simpa using h1
    refine WP.skip ?_
    refine WP.seq ?_
    refine WP.reg hT hE [] rfl ?_ ?_
    · first | trivial | (simp [holdsC, under, slOk, slB, capEq] <;> grind)
    refine WP.ret ?_
    change Fin _ _ _ _ _ _ _ _
    exact finI hT (by rfl) (by simp [objF, h])
theorem register_ac (p : PProg) (f : PFun) (n : Int) : AC Tryz.prog T tysN 171 [.rp 196 (encCk p f), .int n] [] (.int (regF f n)) [] := by
  refine AC_intro hT Tryz.func171 rfl rfl (Nat.le_of_ble_eq_true rfl) ?_
  refine WP.seq ?_
  refine WP.reg hT hE [] rfl ?_ ?_
  · first | trivial | (simp [holdsC, under, slOk, slB, capEq] <;> grind)
  refine WP.seq ?_
  refine WP.seq ?_
  refine WP.reg hT hE [CG.pure (.bool (withinB n f.regs))] rfl ?_ ?_
  · exact within_ac n f.regs
  refine WP.cond rfl (fun h1 => ?_) (fun h1 => ?_)
  · have h : withinB n f.regs = false := by simpa using h1
    refine WP.seq ?_
    refine WP.reg hT hE [] rfl ?_ ?_
    · first | trivial | (simp [holdsC, under, slOk, slB, capEq] <;> grind)
    refine WP.ret ?_
    change Fin _ _ _ _ _ _ _ _
    exact finI hT (by rfl) (by simp [regF, h])
  · have h : withinB n f.regs = true := by simpa using h1
    refine WP.skip ?_
    refine WP.seq ?_
    refine WP.reg hT hE [] rfl ?_ ?_
    · first | trivial | (simp [holdsC, under, slOk, slB, capEq] <;> grind)
    refine WP.ret ?_
    change Fin _ _ _ _ _ _ _ _
    exact finI hT (by rfl) (by simp [regF, h])
theorem target_ac (p : PProg) (f : PFun) (n : Int) : AC Tryz.prog T tysN 172 [.rp 196 (encCk p f), .int n] [] (.int (tgtF f n)) [] := by
  refine AC_intro hT Tryz.func172 rfl rfl (Nat.le_of_ble_eq_true rfl) ?_
  refine WP.seq ?_
  refine WP.reg hT hE [] rfl ?_ ?_
  · first | trivial | (simp [holdsC, under, slOk, slB, capEq] <;> grind)
  refine WP.seq ?_
  refine WP.seq ?_
  refine WP.reg hT hE [CG.pure (.bool (withinB n f.code.length))] rfl ?_ ?_
  · exact within_ac n f.code.length
  refine WP.cond rfl (fun h1 => ?_) (fun h1 => ?_)
  · have h : withinB n f.code.length = false := by simpa using h1
    refine WP.seq ?_
    refine WP.reg hT hE [] rfl ?_ ?_
    · first | trivial | (simp [holdsC, under, slOk, slB, capEq] <;> grind)
    refine WP.ret ?_
    change Fin _ _ _ _ _ _ _ _
    exact finI hT (by rfl) (by simp [tgtF, h])
  · have h : withinB n f.code.length = true := by simpa using h1
    refine WP.skip ?_
    refine WP.seq ?_
    refine WP.reg hT hE [] rfl ?_ ?_
    · first | trivial | (simp [holdsC, under, slOk, slB, capEq] <;> grind)
    refine WP.ret ?_
    change Fin _ _ _ _ _ _ _ _
    exact finI hT (by rfl) (by simp [tgtF, h])
end Go.Ab


/- What is wrong with an operand. -/
set_option autoImplicit false
set_option maxRecDepth 20000
set_option maxHeartbeats 4000000
set_option linter.unusedSimpArgs false
set_option linter.unusedVariables false
namespace Go.Ab
open Go.Proofs
def parF (f : PFun) (n k : Int) : Int := if (k == 0 && n != 0) || (decide (k > 0) && (decide (n < 0) || decide (n > IntKind.i64.wrap (f.regs - k)))) then 35 else 0
def atomF (p : PProg) (n : Int) : Int := if withinB n p.vars.length then (if (p.vars.getD n.toNat var0).atomic then 0 else 37) else 36
def opndF (p : PProg) (f : PFun) (c n : Int) (x : PIns) : Int :=
  if c = 111 then (if n = -1 then 0 else regF f n) else if c = 114 then regF f n else if c = 119 then regF f n else
  if c = 118 then objF n p.vars.length else if c = 97 then atomF p n else if c = 108 then objF n p.locks else
  if c = 99 then objF n p.chans.length else if c = 115 then objF n f.sels.length else if c = 102 then objF n p.funcs.length else
  if c = 116 then tgtF f n else if c = 112 then parF f n (p.funcs.getD x.b.toNat fun0).params else 0
theorem objF_ok {n m : Int} (h : objF n m = 0) : 0 ≤ n ∧ n < m := by
  unfold objF at h
  split at h
  · rename_i hw
    simpa [withinB] using hw
  · cases h
theorem operand_ac (p : PProg) (f : PFun) (c n : Int) (x : PIns) (hx : c = 112 → 0 ≤ x.b ∧ x.b < p.funcs.length) : AC Tryz.prog T tysN 175 [.rp 196 (encCk p f), .v (.int .u8 c), .int n, encIns x] [] (.int (opndF p f c n x)) [] := by
  refine AC_intro hT Tryz.func175 rfl rfl (Nat.le_of_ble_eq_true rfl) ?_
  refine WP.seq ?_
  refine WP.reg hT hE [] rfl ?_ ?_
  · first | trivial | (simp [holdsC, under, slOk, slB, capEq] <;> grind)
  refine WP.seq ?_
  refine WP.seq ?_
  refine WP.reg hT hE [] rfl ?_ ?_
  · first | trivial | (simp [holdsC, under, slOk, slB, capEq] <;> grind)
  refine WP.block ?_
  refine WP.seq ?_
  refine WP.reg hT hE [] rfl ?_ ?_
  · first | trivial | (simp [holdsC, under, slOk, slB, capEq] <;> grind)
  refine WP.cond rfl (fun h2 => ?_) (fun h2 => ?_)
  · refine WP.seq ?_
    refine WP.seq ?_
    refine WP.reg hT hE [] rfl ?_ ?_
    · first | trivial | (simp [holdsC, under, slOk, slB, capEq] <;> grind)
    refine WP.cond rfl (fun h3 => ?_) (fun h3 => ?_)
    · refine WP.seq ?_
      refine WP.reg hT hE [] rfl ?_ ?_
      · first | trivial | (simp [holdsC, under, slOk, slB, capEq] <;> grind)
      refine WP.ret ?_
      change Fin _ _ _ _ _ _ _ _
      refine finI hT (by rfl) ?_
      first | (simp_all [opndF]; done) | (simp_all [opndF, atomF, objF]; done) | (simp_all [opndF, atomF, objF, parF, bor, band]; done) | (simp_all [opndF, atomF, objF, parF, bor, band]; trace_state; sorry)
    · refine WP.skip ?_
      refine WP.seq ?_
      refine WP.reg hT hE [CG.pure (.int (regF f n))] rfl ?_ ?_
      · exact register_ac p f n
      refine WP.ret ?_
      change Fin _ _ _ _ _ _ _ _
      refine finI hT (by rfl) ?_
      first | (simp_all [opndF]; done) | (simp_all [opndF, atomF, objF]; done) | (simp_all [opndF, atomF, objF, parF, bor, band]; done) | (simp_all [opndF, atomF, objF, parF, bor, band]; trace_state; sorry)
  · refine WP.seq ?_
    refine WP.seq ?_
    refine WP.reg hT hE [] rfl ?_ ?_
    · first | trivial | (simp [holdsC, under, slOk, slB, capEq] <;> grind)
    refine WP.cond rfl (fun h6 => ?_) (fun h6 => ?_)
    · refine WP.skip ?_
      refine WP.cond rfl (fun h6 => ?_) (fun h6 => ?_)
      · refine WP.seq ?_
        refine WP.reg hT hE [CG.pure (.int (regF f n))] rfl ?_ ?_
        · exact register_ac p f n
        refine WP.ret ?_
        change Fin _ _ _ _ _ _ _ _
        refine finI hT (by rfl) ?_
        first | (simp_all [opndF]; done) | (simp_all [opndF, atomF, objF]; done) | (simp_all [opndF, atomF, objF, parF, bor, band]; done) | (simp_all [opndF, atomF, objF, parF, bor, band]; trace_state; sorry)
      · simp_all
    · refine WP.reg hT hE [] rfl ?_ ?_
      · first | trivial | (simp [holdsC, under, slOk, slB, capEq] <;> grind)
      refine WP.cond rfl (fun h7 => ?_) (fun h7 => ?_)
      · refine WP.seq ?_
        refine WP.reg hT hE [CG.pure (.int (regF f n))] rfl ?_ ?_
        · exact register_ac p f n
        refine WP.ret ?_
        change Fin _ _ _ _ _ _ _ _
        refine finI hT (by rfl) ?_
        first | (simp_all [opndF]; done) | (simp_all [opndF, atomF, objF]; done) | (simp_all [opndF, atomF, objF, parF, bor, band]; done) | (simp_all [opndF, atomF, objF, parF, bor, band]; trace_state; sorry)
      · refine WP.seq ?_
        refine WP.reg hT hE [] rfl ?_ ?_
        · first | trivial | (simp [holdsC, under, slOk, slB, capEq] <;> grind)
        refine WP.cond rfl (fun h9 => ?_) (fun h9 => ?_)
        · refine WP.seq ?_
          refine WP.seq ?_
          refine WP.reg hT hE [CG.pure (.int (objF n p.vars.length))] rfl ?_ ?_
          · exact object_ac n p.vars.length
          refine WP.seq ?_
          refine WP.reg hT hE [] rfl ?_ ?_
          · first | trivial | (simp [holdsC, under, slOk, slB, capEq] <;> grind)
          refine WP.cond rfl (fun h11 => ?_) (fun h11 => ?_)
          · refine WP.seq ?_
            refine WP.reg hT hE [] rfl ?_ ?_
            · first | trivial | (simp [holdsC, under, slOk, slB, capEq] <;> grind)
            refine WP.ret ?_
            change Fin _ _ _ _ _ _ _ _
            refine finI hT (by rfl) ?_
            first | (simp_all [opndF]; done) | (simp_all [opndF, atomF, objF]; done) | (simp_all [opndF, atomF, objF, parF, bor, band]; done) | (simp_all [opndF, atomF, objF, parF, bor, band]; trace_state; sorry)
          · refine WP.skip ?_
            refine WP.seq ?_
            refine WP.reg hT hE [] rfl ?_ ?_
            · first | trivial | (simp [holdsC, under, slOk, slB, capEq] <;> grind)
            refine WP.ret ?_
            change Fin _ _ _ _ _ _ _ _
            refine finI hT (by rfl) ?_
            first | (simp_all [opndF]; done) | (simp_all [opndF, atomF, objF]; done) | (simp_all [opndF, atomF, objF, parF, bor, band]; done) | (simp_all [opndF, atomF, objF, parF, bor, band]; trace_state; sorry)
        · refine WP.seq ?_
          refine WP.reg hT hE [] rfl ?_ ?_
          · first | trivial | (simp [holdsC, under, slOk, slB, capEq] <;> grind)
          refine WP.cond rfl (fun h14 => ?_) (fun h14 => ?_)
          · refine WP.seq ?_
            refine WP.seq ?_
            refine WP.reg hT hE [CG.pure (.int (objF n p.vars.length))] rfl ?_ ?_
            · exact object_ac n p.vars.length
            refine WP.seq ?_
            refine WP.reg hT hE [] rfl ?_ ?_
            · first | trivial | (simp [holdsC, under, slOk, slB, capEq] <;> grind)
            refine WP.cond rfl (fun h16 => ?_) (fun h16 => ?_)
            · refine WP.seq ?_
              refine WP.reg hT hE [] rfl ?_ ?_
              · first | trivial | (simp [holdsC, under, slOk, slB, capEq] <;> grind)
              refine WP.ret ?_
              change Fin _ _ _ _ _ _ _ _
              refine finI hT (by rfl) ?_
              first | (simp_all [opndF]; done) | (simp_all [opndF, atomF, objF]; done) | (simp_all [opndF, atomF, objF, parF, bor, band]; done) | (simp_all [opndF, atomF, objF, parF, bor, band]; trace_state; sorry)
            · have hv := objF_ok (show objF n p.vars.length = 0 by simpa using h16)
              refine WP.skip ?_
              refine WP.seq ?_
              refine WP.reg hT hE [] rfl ?_ ?_
              · simp [holdsC, under]; omega
              refine WP.cond rfl (fun h18 => ?_) (fun h18 => ?_)
              · refine WP.seq ?_
                refine WP.reg hT hE [] rfl ?_ ?_
                · first | trivial | (simp [holdsC, under, slOk, slB, capEq] <;> grind)
                refine WP.ret ?_
                change Fin _ _ _ _ _ _ _ _
                refine finI hT (by rfl) ?_
                first | (simp_all [opndF]; done) | (simp_all [opndF, atomF, objF]; done) | (simp_all [opndF, atomF, objF, parF, bor, band]; done) | (simp_all [opndF, atomF, objF, parF, bor, band]; trace_state; sorry)
              · refine WP.skip ?_
                refine WP.seq ?_
                refine WP.reg hT hE [] rfl ?_ ?_
                · first | trivial | (simp [holdsC, under, slOk, slB, capEq] <;> grind)
                refine WP.ret ?_
                change Fin _ _ _ _ _ _ _ _
                refine finI hT (by rfl) ?_
                first | (simp_all [opndF]; done) | (simp_all [opndF, atomF, objF]; done) | (simp_all [opndF, atomF, objF, parF, bor, band]; done) | (simp_all [opndF, atomF, objF, parF, bor, band]; trace_state; sorry)
          · refine WP.seq ?_
            refine WP.reg hT hE [] rfl ?_ ?_
            · first | trivial | (simp [holdsC, under, slOk, slB, capEq] <;> grind)
            refine WP.cond rfl (fun h20 => ?_) (fun h20 => ?_)
            · refine WP.seq ?_
              refine WP.reg hT hE [CG.pure (.int (objF n p.locks))] rfl ?_ ?_
              · exact object_ac n p.locks
              refine WP.ret ?_
              change Fin _ _ _ _ _ _ _ _
              refine finI hT (by rfl) ?_
              first | (simp_all [opndF]; done) | (simp_all [opndF, atomF, objF]; done) | (simp_all [opndF, atomF, objF, parF, bor, band]; done) | (simp_all [opndF, atomF, objF, parF, bor, band]; trace_state; sorry)
            · refine WP.seq ?_
              refine WP.reg hT hE [] rfl ?_ ?_
              · first | trivial | (simp [holdsC, under, slOk, slB, capEq] <;> grind)
              refine WP.cond rfl (fun h22 => ?_) (fun h22 => ?_)
              · refine WP.seq ?_
                refine WP.reg hT hE [CG.pure (.int (objF n p.chans.length))] rfl ?_ ?_
                · exact object_ac n p.chans.length
                refine WP.ret ?_
                change Fin _ _ _ _ _ _ _ _
                refine finI hT (by rfl) ?_
                first | (simp_all [opndF]; done) | (simp_all [opndF, atomF, objF]; done) | (simp_all [opndF, atomF, objF, parF, bor, band]; done) | (simp_all [opndF, atomF, objF, parF, bor, band]; trace_state; sorry)
              · refine WP.seq ?_
                refine WP.reg hT hE [] rfl ?_ ?_
                · first | trivial | (simp [holdsC, under, slOk, slB, capEq] <;> grind)
                refine WP.cond rfl (fun h24 => ?_) (fun h24 => ?_)
                · refine WP.seq ?_
                  refine WP.reg hT hE [CG.pure (.int (objF n f.sels.length))] rfl ?_ ?_
                  · exact object_ac n f.sels.length
                  refine WP.ret ?_
                  change Fin _ _ _ _ _ _ _ _
                  refine finI hT (by rfl) ?_
                  first | (simp_all [opndF]; done) | (simp_all [opndF, atomF, objF]; done) | (simp_all [opndF, atomF, objF, parF, bor, band]; done) | (simp_all [opndF, atomF, objF, parF, bor, band]; trace_state; sorry)
                · refine WP.seq ?_
                  refine WP.reg hT hE [] rfl ?_ ?_
                  · first | trivial | (simp [holdsC, under, slOk, slB, capEq] <;> grind)
                  refine WP.cond rfl (fun h26 => ?_) (fun h26 => ?_)
                  · refine WP.seq ?_
                    refine WP.reg hT hE [CG.pure (.int (objF n p.funcs.length))] rfl ?_ ?_
                    · exact object_ac n p.funcs.length
                    refine WP.ret ?_
                    change Fin _ _ _ _ _ _ _ _
                    refine finI hT (by rfl) ?_
                    first | (simp_all [opndF]; done) | (simp_all [opndF, atomF, objF]; done) | (simp_all [opndF, atomF, objF, parF, bor, band]; done) | (simp_all [opndF, atomF, objF, parF, bor, band]; trace_state; sorry)
                  · refine WP.seq ?_
                    refine WP.reg hT hE [] rfl ?_ ?_
                    · first | trivial | (simp [holdsC, under, slOk, slB, capEq] <;> grind)
                    refine WP.cond rfl (fun h28 => ?_) (fun h28 => ?_)
                    · refine WP.seq ?_
                      refine WP.reg hT hE [CG.pure (.int (tgtF f n))] rfl ?_ ?_
                      · exact target_ac p f n
                      refine WP.ret ?_
                      change Fin _ _ _ _ _ _ _ _
                      refine finI hT (by rfl) ?_
                      first | (simp_all [opndF]; done) | (simp_all [opndF, atomF, objF]; done) | (simp_all [opndF, atomF, objF, parF, bor, band]; done) | (simp_all [opndF, atomF, objF, parF, bor, band]; trace_state; sorry)
                    · refine WP.seq ?_
                      refine WP.reg hT hE [] rfl ?_ ?_
                      · first | trivial | (simp [holdsC, under, slOk, slB, capEq] <;> grind)
                      refine WP.cond rfl (fun h30 => ?_) (fun h30 => ?_)
                      · have hb := hx (by simpa using h30)
                        refine WP.seq ?_
                        refine WP.drw hT hE hM [] rfl ?_ ?_
                        · simp [holdsC, under]; omega
                        refine WP.seq ?_
                        refine WP.reg hT hE [] rfl ?_ ?_
                        · first | trivial | (simp [holdsC, under, slOk, slB, capEq] <;> grind)
                        refine WP.cond rfl (fun h32 => ?_) (fun h32 => ?_)
                        · refine WP.seq ?_
                          refine WP.reg hT hE [] rfl ?_ ?_
                          · first | trivial | (simp [holdsC, under, slOk, slB, capEq] <;> grind)
                          refine WP.ret ?_
                          change Fin _ _ _ _ _ _ _ _
                          refine finI hT (by rfl) ?_
                          first | (simp_all [opndF]; done) | (simp_all [opndF, atomF, objF]; done) | (simp_all [opndF, atomF, objF, parF, bor, band]; done) | (simp_all [opndF, atomF, objF, parF, bor, band]; trace_state; sorry)
                        · refine WP.skip ?_
                          refine WP.seq ?_
                          refine WP.reg hT hE [] rfl ?_ ?_
                          · first | trivial | (simp [holdsC, under, slOk, slB, capEq] <;> grind)
                          refine WP.ret ?_
                          change Fin _ _ _ _ _ _ _ _
                          refine finI hT (by rfl) ?_
                          first | (simp_all [opndF]; done) | (simp_all [opndF, atomF, objF]; done) | (simp_all [opndF, atomF, objF, parF, bor, band]; done) | (simp_all [opndF, atomF, objF, parF, bor, band]; trace_state; sorry)
                      · refine WP.skip ?_
                        refine WP.seq ?_
                        refine WP.reg hT hE [] rfl ?_ ?_
                        · first | trivial | (simp [holdsC, under, slOk, slB, capEq] <;> grind)
                        refine WP.ret ?_
                        change Fin _ _ _ _ _ _ _ _
                        refine finI hT (by rfl) ?_
                        first | (simp_all [opndF]; done) | (simp_all [opndF, atomF, objF]; done) | (simp_all [opndF, atomF, objF, parF, bor, band]; done) | (simp_all [opndF, atomF, objF, parF, bor, band]; trace_state; sorry)
theorem roperand_ac (p : PProg) (f : PFun) (c n : Int) (x : PIns) (hx : c = 112 → 0 ≤ x.b ∧ x.b < p.funcs.length) : AC Tryz.prog T tysN 162 [encProg p, encFun f, .v (.int .u8 c), .int n, encIns x] [] (.int (opndF p f c n x)) [] := by
  refine AC_intro hT Tryz.func162 rfl rfl (Nat.le_of_ble_eq_true rfl) ?_
  refine WP.seq ?_
  refine WP.reg hT hE [] rfl ?_ ?_
  · first | trivial | (simp [holdsC, under, slOk, slB, capEq] <;> grind)
  refine WP.seq ?_
  refine WP.seq ?_
  refine WP.reg hT hE [] rfl ?_ ?_
  · first | trivial | (simp [holdsC, under, slOk, slB, capEq] <;> grind)
  refine WP.block ?_
  refine WP.seq ?_
  refine WP.seq ?_
  refine WP.reg hT hE [] rfl ?_ ?_
  · first | trivial | (simp [holdsC, under, slOk, slB, capEq] <;> grind)
  refine WP.cond rfl (fun h2 => ?_) (fun h2 => ?_)
  · refine WP.skip ?_
    refine WP.cond rfl (fun h2 => ?_) (fun h2 => ?_)
    · refine WP.seq ?_
      refine WP.reg hT hE [CG.pure (.bool (withinB n f.regs))] rfl ?_ ?_
      · simp [holdsC, under, CG.pure]
        exact rwithin_ac n f.regs
      refine WP.cond rfl (fun h4 => ?_) (fun h4 => ?_)
      · refine WP.seq ?_
        refine WP.reg hT hE [] rfl ?_ ?_
        · first | trivial | (simp [holdsC, under, slOk, slB, capEq] <;> grind)
        refine WP.ret ?_
        change Fin _ _ _ _ _ _ _ _
        refine finI hT (by rfl) ?_
        first | (simp_all [opndF, regF, tgtF]; done) | (simp_all [opndF, atomF, objF, regF, tgtF]; done) | (simp_all [opndF, atomF, objF, parF, bor, band, regF, tgtF]; done) | (simp_all [opndF, atomF, objF, parF, bor, band, regF, tgtF]; trace_state; sorry)
      · refine WP.skip ?_
        refine WP.seq ?_
        refine WP.reg hT hE [] rfl ?_ ?_
        · first | trivial | (simp [holdsC, under, slOk, slB, capEq] <;> grind)
        refine WP.ret ?_
        change Fin _ _ _ _ _ _ _ _
        refine finI hT (by rfl) ?_
        first | (simp_all [opndF, regF, tgtF]; done) | (simp_all [opndF, atomF, objF, regF, tgtF]; done) | (simp_all [opndF, atomF, objF, parF, bor, band, regF, tgtF]; done) | (simp_all [opndF, atomF, objF, parF, bor, band, regF, tgtF]; trace_state; sorry)
    · simp_all
  · refine WP.reg hT hE [] rfl ?_ ?_
    · first | trivial | (simp [holdsC, under, slOk, slB, capEq] <;> grind)
    refine WP.cond rfl (fun h3 => ?_) (fun h3 => ?_)
    · refine WP.seq ?_
      refine WP.reg hT hE [CG.pure (.bool (withinB n f.regs))] rfl ?_ ?_
      · simp [holdsC, under, CG.pure]
        exact rwithin_ac n f.regs
      refine WP.cond rfl (fun h4 => ?_) (fun h4 => ?_)
      · refine WP.seq ?_
        refine WP.reg hT hE [] rfl ?_ ?_
        · first | trivial | (simp [holdsC, under, slOk, slB, capEq] <;> grind)
        refine WP.ret ?_
        change Fin _ _ _ _ _ _ _ _
        refine finI hT (by rfl) ?_
        first | (simp_all [opndF, regF, tgtF]; done) | (simp_all [opndF, atomF, objF, regF, tgtF]; done) | (simp_all [opndF, atomF, objF, parF, bor, band, regF, tgtF]; done) | (simp_all [opndF, atomF, objF, parF, bor, band, regF, tgtF]; trace_state; sorry)
      · refine WP.skip ?_
        refine WP.seq ?_
        refine WP.reg hT hE [] rfl ?_ ?_
        · first | trivial | (simp [holdsC, under, slOk, slB, capEq] <;> grind)
        refine WP.ret ?_
        change Fin _ _ _ _ _ _ _ _
        refine finI hT (by rfl) ?_
        first | (simp_all [opndF, regF, tgtF]; done) | (simp_all [opndF, atomF, objF, regF, tgtF]; done) | (simp_all [opndF, atomF, objF, parF, bor, band, regF, tgtF]; done) | (simp_all [opndF, atomF, objF, parF, bor, band, regF, tgtF]; trace_state; sorry)
    · refine WP.seq ?_
      refine WP.reg hT hE [] rfl ?_ ?_
      · first | trivial | (simp [holdsC, under, slOk, slB, capEq] <;> grind)
      refine WP.cond rfl (fun h6 => ?_) (fun h6 => ?_)
      · refine WP.seq ?_
        refine WP.reg hT hE [CG.pure (.bool (withinB n f.regs))] rfl ?_ ?_
        · have hw := rwithin_ac n f.regs
          simp [holdsC, under, CG.pure]
          exact fun _ => hw
        refine WP.cond rfl (fun h7 => ?_) (fun h7 => ?_)
        · refine WP.seq ?_
          refine WP.reg hT hE [] rfl ?_ ?_
          · first | trivial | (simp [holdsC, under, slOk, slB, capEq] <;> grind)
          refine WP.ret ?_
          change Fin _ _ _ _ _ _ _ _
          refine finI hT (by rfl) ?_
          first | (simp_all [opndF, regF, tgtF]; done) | (simp_all [opndF, atomF, objF, regF, tgtF]; done) | (simp_all [opndF, atomF, objF, parF, bor, band, regF, tgtF]; done) | (simp_all [opndF, atomF, objF, parF, bor, band, regF, tgtF]; trace_state; sorry)
        · refine WP.skip ?_
          refine WP.seq ?_
          refine WP.reg hT hE [] rfl ?_ ?_
          · first | trivial | (simp [holdsC, under, slOk, slB, capEq] <;> grind)
          refine WP.ret ?_
          change Fin _ _ _ _ _ _ _ _
          refine finI hT (by rfl) ?_
          first | (simp_all [opndF, regF, tgtF]; done) | (simp_all [opndF, atomF, objF, regF, tgtF]; done) | (simp_all [opndF, atomF, objF, parF, bor, band, regF, tgtF]; done) | (simp_all [opndF, atomF, objF, parF, bor, band, regF, tgtF]; trace_state; sorry)
      · refine WP.seq ?_
        refine WP.reg hT hE [] rfl ?_ ?_
        · first | trivial | (simp [holdsC, under, slOk, slB, capEq] <;> grind)
        refine WP.cond rfl (fun h9 => ?_) (fun h9 => ?_)
        · have hb := hx (by simpa using h9)
          refine WP.seq ?_
          refine WP.reg hT hE [] rfl ?_ ?_
          · simp [holdsC, under]; omega
          refine WP.seq ?_
          refine WP.reg hT hE [] rfl ?_ ?_
          · first | trivial | (simp [holdsC, under, slOk, slB, capEq] <;> grind)
          refine WP.cond rfl (fun h11 => ?_) (fun h11 => ?_)
          · refine WP.seq ?_
            refine WP.reg hT hE [] rfl ?_ ?_
            · first | trivial | (simp [holdsC, under, slOk, slB, capEq] <;> grind)
            refine WP.ret ?_
            change Fin _ _ _ _ _ _ _ _
            refine finI hT (by rfl) ?_
            first | (simp_all [opndF, regF, tgtF]; done) | (simp_all [opndF, atomF, objF, regF, tgtF]; done) | (simp_all [opndF, atomF, objF, parF, bor, band, regF, tgtF]; done) | (simp_all [opndF, atomF, objF, parF, bor, band, regF, tgtF]; trace_state; sorry)
          · refine WP.skip ?_
            refine WP.seq ?_
            refine WP.reg hT hE [] rfl ?_ ?_
            · first | trivial | (simp [holdsC, under, slOk, slB, capEq] <;> grind)
            refine WP.ret ?_
            change Fin _ _ _ _ _ _ _ _
            refine finI hT (by rfl) ?_
            first | (simp_all [opndF, regF, tgtF]; done) | (simp_all [opndF, atomF, objF, regF, tgtF]; done) | (simp_all [opndF, atomF, objF, parF, bor, band, regF, tgtF]; done) | (simp_all [opndF, atomF, objF, parF, bor, band, regF, tgtF]; trace_state; sorry)
        · refine WP.seq ?_
          refine WP.reg hT hE [] rfl ?_ ?_
          · first | trivial | (simp [holdsC, under, slOk, slB, capEq] <;> grind)
          refine WP.cond rfl (fun h13 => ?_) (fun h13 => ?_)
          · refine WP.seq ?_
            refine WP.reg hT hE [CG.pure (.bool (withinB n p.vars.length))] rfl ?_ ?_
            · have hw := rwithin_ac n p.vars.length
              simp [holdsC, under, CG.pure]
              exact hw
            refine WP.cond rfl (fun h14 => ?_) (fun h14 => ?_)
            · refine WP.seq ?_
              refine WP.reg hT hE [] rfl ?_ ?_
              · first | trivial | (simp [holdsC, under, slOk, slB, capEq] <;> grind)
              refine WP.ret ?_
              change Fin _ _ _ _ _ _ _ _
              refine finI hT (by rfl) ?_
              first | (simp_all [opndF, regF, tgtF]; done) | (simp_all [opndF, atomF, objF, regF, tgtF]; done) | (simp_all [opndF, atomF, objF, parF, bor, band, regF, tgtF]; done) | (simp_all [opndF, atomF, objF, parF, bor, band, regF, tgtF]; trace_state; sorry)
            · refine WP.skip ?_
              refine WP.seq ?_
              refine WP.reg hT hE [] rfl ?_ ?_
              · first | trivial | (simp [holdsC, under, slOk, slB, capEq] <;> grind)
              refine WP.ret ?_
              change Fin _ _ _ _ _ _ _ _
              refine finI hT (by rfl) ?_
              first | (simp_all [opndF, regF, tgtF]; done) | (simp_all [opndF, atomF, objF, regF, tgtF]; done) | (simp_all [opndF, atomF, objF, parF, bor, band, regF, tgtF]; done) | (simp_all [opndF, atomF, objF, parF, bor, band, regF, tgtF]; trace_state; sorry)
          · refine WP.seq ?_
            refine WP.reg hT hE [] rfl ?_ ?_
            · first | trivial | (simp [holdsC, under, slOk, slB, capEq] <;> grind)
            refine WP.cond rfl (fun h16 => ?_) (fun h16 => ?_)
            · refine WP.seq ?_
              refine WP.seq ?_
              refine WP.reg hT hE [CG.pure (.bool (withinB n p.vars.length))] rfl ?_ ?_
              · have hw := rwithin_ac n p.vars.length
                simp [holdsC, under, CG.pure]
                exact hw
              refine WP.cond rfl (fun h17 => ?_) (fun h17 => ?_)
              · refine WP.seq ?_
                refine WP.reg hT hE [] rfl ?_ ?_
                · first | trivial | (simp [holdsC, under, slOk, slB, capEq] <;> grind)
                refine WP.ret ?_
                change Fin _ _ _ _ _ _ _ _
                refine finI hT (by rfl) ?_
                first | (simp_all [opndF, regF, tgtF]; done) | (simp_all [opndF, atomF, objF, regF, tgtF]; done) | (simp_all [opndF, atomF, objF, parF, bor, band, regF, tgtF]; done) | (simp_all [opndF, atomF, objF, parF, bor, band, regF, tgtF]; trace_state; sorry)
              · have hv : 0 ≤ n ∧ n < p.vars.length := by
                  have e : withinB n p.vars.length = true := by simpa using h17
                  simpa [withinB] using e
                refine WP.skip ?_
                refine WP.seq ?_
                refine WP.reg hT hE [] rfl ?_ ?_
                · simp [holdsC, under]; omega
                refine WP.cond rfl (fun h19 => ?_) (fun h19 => ?_)
                · refine WP.seq ?_
                  refine WP.reg hT hE [] rfl ?_ ?_
                  · first | trivial | (simp [holdsC, under, slOk, slB, capEq] <;> grind)
                  refine WP.ret ?_
                  change Fin _ _ _ _ _ _ _ _
                  refine finI hT (by rfl) ?_
                  first | (simp_all [opndF, regF, tgtF]; done) | (simp_all [opndF, atomF, objF, regF, tgtF]; done) | (simp_all [opndF, atomF, objF, parF, bor, band, regF, tgtF]; done) | (simp_all [opndF, atomF, objF, parF, bor, band, regF, tgtF]; trace_state; sorry)
                · refine WP.skip ?_
                  refine WP.seq ?_
                  refine WP.reg hT hE [] rfl ?_ ?_
                  · first | trivial | (simp [holdsC, under, slOk, slB, capEq] <;> grind)
                  refine WP.ret ?_
                  change Fin _ _ _ _ _ _ _ _
                  refine finI hT (by rfl) ?_
                  first | (simp_all [opndF, regF, tgtF]; done) | (simp_all [opndF, atomF, objF, regF, tgtF]; done) | (simp_all [opndF, atomF, objF, parF, bor, band, regF, tgtF]; done) | (simp_all [opndF, atomF, objF, parF, bor, band, regF, tgtF]; trace_state; sorry)
            · refine WP.seq ?_
              refine WP.reg hT hE [] rfl ?_ ?_
              · first | trivial | (simp [holdsC, under, slOk, slB, capEq] <;> grind)
              refine WP.cond rfl (fun h21 => ?_) (fun h21 => ?_)
              · refine WP.seq ?_
                refine WP.reg hT hE [CG.pure (.bool (withinB n p.locks))] rfl ?_ ?_
                · have hw := rwithin_ac n p.locks
                  simp [holdsC, under, CG.pure]
                  exact hw
                refine WP.cond rfl (fun h22 => ?_) (fun h22 => ?_)
                · refine WP.seq ?_
                  refine WP.reg hT hE [] rfl ?_ ?_
                  · first | trivial | (simp [holdsC, under, slOk, slB, capEq] <;> grind)
                  refine WP.ret ?_
                  change Fin _ _ _ _ _ _ _ _
                  refine finI hT (by rfl) ?_
                  first | (simp_all [opndF, regF, tgtF]; done) | (simp_all [opndF, atomF, objF, regF, tgtF]; done) | (simp_all [opndF, atomF, objF, parF, bor, band, regF, tgtF]; done) | (simp_all [opndF, atomF, objF, parF, bor, band, regF, tgtF]; trace_state; sorry)
                · refine WP.skip ?_
                  refine WP.seq ?_
                  refine WP.reg hT hE [] rfl ?_ ?_
                  · first | trivial | (simp [holdsC, under, slOk, slB, capEq] <;> grind)
                  refine WP.ret ?_
                  change Fin _ _ _ _ _ _ _ _
                  refine finI hT (by rfl) ?_
                  first | (simp_all [opndF, regF, tgtF]; done) | (simp_all [opndF, atomF, objF, regF, tgtF]; done) | (simp_all [opndF, atomF, objF, parF, bor, band, regF, tgtF]; done) | (simp_all [opndF, atomF, objF, parF, bor, band, regF, tgtF]; trace_state; sorry)
              · refine WP.seq ?_
                refine WP.reg hT hE [] rfl ?_ ?_
                · first | trivial | (simp [holdsC, under, slOk, slB, capEq] <;> grind)
                refine WP.cond rfl (fun h24 => ?_) (fun h24 => ?_)
                · refine WP.seq ?_
                  refine WP.reg hT hE [CG.pure (.bool (withinB n p.chans.length))] rfl ?_ ?_
                  · have hw := rwithin_ac n p.chans.length
                    simp [holdsC, under, CG.pure]
                    exact hw
                  refine WP.cond rfl (fun h25 => ?_) (fun h25 => ?_)
                  · refine WP.seq ?_
                    refine WP.reg hT hE [] rfl ?_ ?_
                    · first | trivial | (simp [holdsC, under, slOk, slB, capEq] <;> grind)
                    refine WP.ret ?_
                    change Fin _ _ _ _ _ _ _ _
                    refine finI hT (by rfl) ?_
                    first | (simp_all [opndF, regF, tgtF]; done) | (simp_all [opndF, atomF, objF, regF, tgtF]; done) | (simp_all [opndF, atomF, objF, parF, bor, band, regF, tgtF]; done) | (simp_all [opndF, atomF, objF, parF, bor, band, regF, tgtF]; trace_state; sorry)
                  · refine WP.skip ?_
                    refine WP.seq ?_
                    refine WP.reg hT hE [] rfl ?_ ?_
                    · first | trivial | (simp [holdsC, under, slOk, slB, capEq] <;> grind)
                    refine WP.ret ?_
                    change Fin _ _ _ _ _ _ _ _
                    refine finI hT (by rfl) ?_
                    first | (simp_all [opndF, regF, tgtF]; done) | (simp_all [opndF, atomF, objF, regF, tgtF]; done) | (simp_all [opndF, atomF, objF, parF, bor, band, regF, tgtF]; done) | (simp_all [opndF, atomF, objF, parF, bor, band, regF, tgtF]; trace_state; sorry)
                · refine WP.seq ?_
                  refine WP.reg hT hE [] rfl ?_ ?_
                  · first | trivial | (simp [holdsC, under, slOk, slB, capEq] <;> grind)
                  refine WP.cond rfl (fun h27 => ?_) (fun h27 => ?_)
                  · refine WP.seq ?_
                    refine WP.reg hT hE [CG.pure (.bool (withinB n f.sels.length))] rfl ?_ ?_
                    · have hw := rwithin_ac n f.sels.length
                      simp [holdsC, under, CG.pure]
                      exact hw
                    refine WP.cond rfl (fun h28 => ?_) (fun h28 => ?_)
                    · refine WP.seq ?_
                      refine WP.reg hT hE [] rfl ?_ ?_
                      · first | trivial | (simp [holdsC, under, slOk, slB, capEq] <;> grind)
                      refine WP.ret ?_
                      change Fin _ _ _ _ _ _ _ _
                      refine finI hT (by rfl) ?_
                      first | (simp_all [opndF, regF, tgtF]; done) | (simp_all [opndF, atomF, objF, regF, tgtF]; done) | (simp_all [opndF, atomF, objF, parF, bor, band, regF, tgtF]; done) | (simp_all [opndF, atomF, objF, parF, bor, band, regF, tgtF]; trace_state; sorry)
                    · refine WP.skip ?_
                      refine WP.seq ?_
                      refine WP.reg hT hE [] rfl ?_ ?_
                      · first | trivial | (simp [holdsC, under, slOk, slB, capEq] <;> grind)
                      refine WP.ret ?_
                      change Fin _ _ _ _ _ _ _ _
                      refine finI hT (by rfl) ?_
                      first | (simp_all [opndF, regF, tgtF]; done) | (simp_all [opndF, atomF, objF, regF, tgtF]; done) | (simp_all [opndF, atomF, objF, parF, bor, band, regF, tgtF]; done) | (simp_all [opndF, atomF, objF, parF, bor, band, regF, tgtF]; trace_state; sorry)
                  · refine WP.seq ?_
                    refine WP.reg hT hE [] rfl ?_ ?_
                    · first | trivial | (simp [holdsC, under, slOk, slB, capEq] <;> grind)
                    refine WP.cond rfl (fun h30 => ?_) (fun h30 => ?_)
                    · refine WP.seq ?_
                      refine WP.reg hT hE [CG.pure (.bool (withinB n p.funcs.length))] rfl ?_ ?_
                      · have hw := rwithin_ac n p.funcs.length
                        simp [holdsC, under, CG.pure]
                        exact hw
                      refine WP.cond rfl (fun h31 => ?_) (fun h31 => ?_)
                      · refine WP.seq ?_
                        refine WP.reg hT hE [] rfl ?_ ?_
                        · first | trivial | (simp [holdsC, under, slOk, slB, capEq] <;> grind)
                        refine WP.ret ?_
                        change Fin _ _ _ _ _ _ _ _
                        refine finI hT (by rfl) ?_
                        first | (simp_all [opndF, regF, tgtF]; done) | (simp_all [opndF, atomF, objF, regF, tgtF]; done) | (simp_all [opndF, atomF, objF, parF, bor, band, regF, tgtF]; done) | (simp_all [opndF, atomF, objF, parF, bor, band, regF, tgtF]; trace_state; sorry)
                      · refine WP.skip ?_
                        refine WP.seq ?_
                        refine WP.reg hT hE [] rfl ?_ ?_
                        · first | trivial | (simp [holdsC, under, slOk, slB, capEq] <;> grind)
                        refine WP.ret ?_
                        change Fin _ _ _ _ _ _ _ _
                        refine finI hT (by rfl) ?_
                        first | (simp_all [opndF, regF, tgtF]; done) | (simp_all [opndF, atomF, objF, regF, tgtF]; done) | (simp_all [opndF, atomF, objF, parF, bor, band, regF, tgtF]; done) | (simp_all [opndF, atomF, objF, parF, bor, band, regF, tgtF]; trace_state; sorry)
                    · refine WP.seq ?_
                      refine WP.reg hT hE [] rfl ?_ ?_
                      · first | trivial | (simp [holdsC, under, slOk, slB, capEq] <;> grind)
                      refine WP.cond rfl (fun h33 => ?_) (fun h33 => ?_)
                      · refine WP.seq ?_
                        refine WP.reg hT hE [CG.pure (.bool (withinB n f.code.length))] rfl ?_ ?_
                        · have hw := rwithin_ac n f.code.length
                          simp [holdsC, under, CG.pure]
                          exact hw
                        refine WP.cond rfl (fun h34 => ?_) (fun h34 => ?_)
                        · refine WP.seq ?_
                          refine WP.reg hT hE [] rfl ?_ ?_
                          · first | trivial | (simp [holdsC, under, slOk, slB, capEq] <;> grind)
                          refine WP.ret ?_
                          change Fin _ _ _ _ _ _ _ _
                          refine finI hT (by rfl) ?_
                          first | (simp_all [opndF, regF, tgtF]; done) | (simp_all [opndF, atomF, objF, regF, tgtF]; done) | (simp_all [opndF, atomF, objF, parF, bor, band, regF, tgtF]; done) | (simp_all [opndF, atomF, objF, parF, bor, band, regF, tgtF]; trace_state; sorry)
                        · refine WP.skip ?_
                          refine WP.seq ?_
                          refine WP.reg hT hE [] rfl ?_ ?_
                          · first | trivial | (simp [holdsC, under, slOk, slB, capEq] <;> grind)
                          refine WP.ret ?_
                          change Fin _ _ _ _ _ _ _ _
                          refine finI hT (by rfl) ?_
                          first | (simp_all [opndF, regF, tgtF]; done) | (simp_all [opndF, atomF, objF, regF, tgtF]; done) | (simp_all [opndF, atomF, objF, parF, bor, band, regF, tgtF]; done) | (simp_all [opndF, atomF, objF, parF, bor, band, regF, tgtF]; trace_state; sorry)
                      · refine WP.skip ?_
                        refine WP.seq ?_
                        refine WP.reg hT hE [] rfl ?_ ?_
                        · first | trivial | (simp [holdsC, under, slOk, slB, capEq] <;> grind)
                        refine WP.ret ?_
                        change Fin _ _ _ _ _ _ _ _
                        refine finI hT (by rfl) ?_
                        first | (simp_all [opndF, regF, tgtF]; done) | (simp_all [opndF, atomF, objF, regF, tgtF]; done) | (simp_all [opndF, atomF, objF, parF, bor, band, regF, tgtF]; done) | (simp_all [opndF, atomF, objF, parF, bor, band, regF, tgtF]; trace_state; sorry)
end Go.Ab


/- What operands an operation has; what is wrong with an instruction. -/
set_option autoImplicit false
set_option maxRecDepth 20000
set_option maxHeartbeats 4000000
set_option linter.unusedSimpArgs false
set_option linter.unusedVariables false
namespace Go.Ab
open Go.Proofs
theorem finS {P : Program} {T : Nat → TI} {N nt : Nat} (hT : TOK P T N) {t : Nat → Option (D × AV)} {m : Id → Option Ob} {k : Nat} {b r : ByteArray} (h : t k = some (.always, .v (.string b))) (e : b = r) : Fin T N nt 0 [.tmp k] (.v (.string r)) [] ⟨t, m⟩ := by
  subst e
  refine ⟨[(k, .v (.string b))], Ent.mk hT [] trivial ⟨⟨rfl, _, h, conv_eq rfl⟩, trivial⟩ trivial rfl, ([.v (.string b)], none), ?_, trivial, rfl⟩
  simp [resL, mkSt, lookN, notTup]
/-- The letters of an operation's operands. -/
def formL (op : Int) : List UInt8 :=
  if 1 ≤ op ∧ op ≤ 15 then [114, 114, 45, 45] else if 16 ≤ op ∧ op ≤ 36 then [114, 114, 114, 45] else
  if op = 40 ∨ op = 44 ∨ op = 65 then [114, 45, 45, 110] else if op = 41 then [114, 114, 45, 45] else if op = 42 then [116, 45, 45, 45] else
  if op = 43 then [114, 116, 45, 45] else if op = 45 ∨ op = 64 then [45, 45, 45, 45] else if op = 50 then [114, 118, 45, 45] else
  if op = 51 then [118, 114, 45, 45] else if op = 52 then [111, 97, 114, 45] else if op = 53 then [114, 97, 114, 119] else
  if op = 54 then [97, 114, 45, 45] else if op = 55 ∨ op = 56 then [108, 45, 45, 45] else if op = 57 then [114, 108, 45, 45] else
  if op = 58 then [99, 114, 45, 45] else if op = 59 then [111, 99, 111, 45] else if op = 60 then [99, 45, 45, 45] else
  if op = 61 then [115, 45, 45, 45] else if op = 62 then [111, 102, 112, 45] else if op = 63 then [114, 45, 45, 45] else []
def formB (op : Int) : ByteArray := ⟨(formL op).toArray⟩
theorem formB_eq {op : Int} {l : List UInt8} (h : formL op = l) : (⟨l.toArray⟩ : ByteArray) = formB op := by rw [formB, h]
theorem form_ac (op : Int) : AC Tryz.prog T tysN 173 [.int op] [] (.v (.string (formB op))) [] := by
  refine AC_intro hT Tryz.func173 rfl rfl (Nat.le_of_ble_eq_true rfl) ?_
  refine WP.seq ?_
  refine WP.reg hT hE [] rfl ?_ ?_
  · first | trivial | (simp [holdsC, under, slOk, slB, capEq] <;> grind)
  refine WP.seq ?_
  refine WP.block ?_
  refine WP.seq ?_
  refine WP.reg hT hE [] rfl ?_ ?_
  · first | trivial | (simp [holdsC, under, slOk, slB, capEq] <;> grind)
  refine WP.cond rfl (fun h1 => ?_) (fun h1 => ?_)
  · refine WP.seq ?_
    refine WP.reg hT hE [] rfl ?_ ?_
    · first | trivial | (simp [holdsC, under, slOk, slB, capEq] <;> grind)
    refine WP.ret ?_
    change Fin _ _ _ _ _ _ _ _
    refine finS hT (by rfl) (formB_eq ?_)
    simp only [band, Bool.and_eq_true, Bool.and_eq_false_iff, decide_eq_true_eq, decide_eq_false_iff_not, beq_iff_eq, beq_eq_false_iff_ne] at *
    unfold formL
    all_goals (repeat (first | rfl | (rw [if_neg (by omega)]) | (rw [if_pos (by omega)])))
  · refine WP.seq ?_
    refine WP.reg hT hE [] rfl ?_ ?_
    · first | trivial | (simp [holdsC, under, slOk, slB, capEq] <;> grind)
    refine WP.cond rfl (fun h3 => ?_) (fun h3 => ?_)
    · refine WP.seq ?_
      refine WP.reg hT hE [] rfl ?_ ?_
      · first | trivial | (simp [holdsC, under, slOk, slB, capEq] <;> grind)
      refine WP.ret ?_
      change Fin _ _ _ _ _ _ _ _
      refine finS hT (by rfl) (formB_eq ?_)
      simp only [band, Bool.and_eq_true, Bool.and_eq_false_iff, decide_eq_true_eq, decide_eq_false_iff_not, beq_iff_eq, beq_eq_false_iff_ne] at *
      unfold formL
      all_goals (repeat (first | rfl | (rw [if_neg (by omega)]) | (rw [if_pos (by omega)])))
    · refine WP.skip ?_
      refine WP.seq ?_
      refine WP.seq ?_
      refine WP.reg hT hE [] rfl ?_ ?_
      · first | trivial | (simp [holdsC, under, slOk, slB, capEq] <;> grind)
      refine WP.block ?_
      refine WP.seq ?_
      refine WP.seq ?_
      refine WP.reg hT hE [] rfl ?_ ?_
      · first | trivial | (simp [holdsC, under, slOk, slB, capEq] <;> grind)
      refine WP.cond rfl (fun h6 => ?_) (fun h6 => ?_)
      · refine WP.skip ?_
        refine WP.cond rfl (fun h6 => ?_) (fun h6 => ?_)
        · refine WP.seq ?_
          refine WP.reg hT hE [] rfl ?_ ?_
          · first | trivial | (simp [holdsC, under, slOk, slB, capEq] <;> grind)
          refine WP.ret ?_
          change Fin _ _ _ _ _ _ _ _
          refine finS hT (by rfl) (formB_eq ?_)
          simp only [band, Bool.and_eq_true, Bool.and_eq_false_iff, decide_eq_true_eq, decide_eq_false_iff_not, beq_iff_eq, beq_eq_false_iff_ne] at *
          unfold formL
          all_goals (repeat (first | rfl | (rw [if_neg (by omega)]) | (rw [if_pos (by omega)])))
        · simp_all
      · refine WP.seq ?_
        refine WP.reg hT hE [] rfl ?_ ?_
        · first | trivial | (simp [holdsC, under, slOk, slB, capEq] <;> grind)
        refine WP.cond rfl (fun h7 => ?_) (fun h7 => ?_)
        · refine WP.skip ?_
          refine WP.cond rfl (fun h7 => ?_) (fun h7 => ?_)
          · refine WP.seq ?_
            refine WP.reg hT hE [] rfl ?_ ?_
            · first | trivial | (simp [holdsC, under, slOk, slB, capEq] <;> grind)
            refine WP.ret ?_
            change Fin _ _ _ _ _ _ _ _
            refine finS hT (by rfl) (formB_eq ?_)
            simp only [band, Bool.and_eq_true, Bool.and_eq_false_iff, decide_eq_true_eq, decide_eq_false_iff_not, beq_iff_eq, beq_eq_false_iff_ne] at *
            unfold formL
            all_goals (repeat (first | rfl | (rw [if_neg (by omega)]) | (rw [if_pos (by omega)])))
          · simp_all
        · refine WP.reg hT hE [] rfl ?_ ?_
          · first | trivial | (simp [holdsC, under, slOk, slB, capEq] <;> grind)
          refine WP.cond rfl (fun h8 => ?_) (fun h8 => ?_)
          · refine WP.seq ?_
            refine WP.reg hT hE [] rfl ?_ ?_
            · first | trivial | (simp [holdsC, under, slOk, slB, capEq] <;> grind)
            refine WP.ret ?_
            change Fin _ _ _ _ _ _ _ _
            refine finS hT (by rfl) (formB_eq ?_)
            simp only [band, Bool.and_eq_true, Bool.and_eq_false_iff, decide_eq_true_eq, decide_eq_false_iff_not, beq_iff_eq, beq_eq_false_iff_ne] at *
            unfold formL
            all_goals (repeat (first | rfl | (rw [if_neg (by omega)]) | (rw [if_pos (by omega)])))
          · refine WP.seq ?_
            refine WP.reg hT hE [] rfl ?_ ?_
            · first | trivial | (simp [holdsC, under, slOk, slB, capEq] <;> grind)
            refine WP.cond rfl (fun h10 => ?_) (fun h10 => ?_)
            · refine WP.seq ?_
              refine WP.reg hT hE [] rfl ?_ ?_
              · first | trivial | (simp [holdsC, under, slOk, slB, capEq] <;> grind)
              refine WP.ret ?_
              change Fin _ _ _ _ _ _ _ _
              refine finS hT (by rfl) (formB_eq ?_)
              simp only [band, Bool.and_eq_true, Bool.and_eq_false_iff, decide_eq_true_eq, decide_eq_false_iff_not, beq_iff_eq, beq_eq_false_iff_ne] at *
              unfold formL
              all_goals (repeat (first | rfl | (rw [if_neg (by omega)]) | (rw [if_pos (by omega)])))
            · refine WP.seq ?_
              refine WP.reg hT hE [] rfl ?_ ?_
              · first | trivial | (simp [holdsC, under, slOk, slB, capEq] <;> grind)
              refine WP.cond rfl (fun h12 => ?_) (fun h12 => ?_)
              · refine WP.seq ?_
                refine WP.reg hT hE [] rfl ?_ ?_
                · first | trivial | (simp [holdsC, under, slOk, slB, capEq] <;> grind)
                refine WP.ret ?_
                change Fin _ _ _ _ _ _ _ _
                refine finS hT (by rfl) (formB_eq ?_)
                simp only [band, Bool.and_eq_true, Bool.and_eq_false_iff, decide_eq_true_eq, decide_eq_false_iff_not, beq_iff_eq, beq_eq_false_iff_ne] at *
                unfold formL
                all_goals (repeat (first | rfl | (rw [if_neg (by omega)]) | (rw [if_pos (by omega)])))
              · refine WP.seq ?_
                refine WP.reg hT hE [] rfl ?_ ?_
                · first | trivial | (simp [holdsC, under, slOk, slB, capEq] <;> grind)
                refine WP.cond rfl (fun h14 => ?_) (fun h14 => ?_)
                · refine WP.seq ?_
                  refine WP.reg hT hE [] rfl ?_ ?_
                  · first | trivial | (simp [holdsC, under, slOk, slB, capEq] <;> grind)
                  refine WP.ret ?_
                  change Fin _ _ _ _ _ _ _ _
                  refine finS hT (by rfl) (formB_eq ?_)
                  simp only [band, Bool.and_eq_true, Bool.and_eq_false_iff, decide_eq_true_eq, decide_eq_false_iff_not, beq_iff_eq, beq_eq_false_iff_ne] at *
                  unfold formL
                  all_goals (repeat (first | rfl | (rw [if_neg (by omega)]) | (rw [if_pos (by omega)])))
                · refine WP.seq ?_
                  refine WP.seq ?_
                  refine WP.reg hT hE [] rfl ?_ ?_
                  · first | trivial | (simp [holdsC, under, slOk, slB, capEq] <;> grind)
                  refine WP.cond rfl (fun h16 => ?_) (fun h16 => ?_)
                  · refine WP.skip ?_
                    refine WP.cond rfl (fun h16 => ?_) (fun h16 => ?_)
                    · refine WP.seq ?_
                      refine WP.reg hT hE [] rfl ?_ ?_
                      · first | trivial | (simp [holdsC, under, slOk, slB, capEq] <;> grind)
                      refine WP.ret ?_
                      change Fin _ _ _ _ _ _ _ _
                      refine finS hT (by rfl) (formB_eq ?_)
                      simp only [band, Bool.and_eq_true, Bool.and_eq_false_iff, decide_eq_true_eq, decide_eq_false_iff_not, beq_iff_eq, beq_eq_false_iff_ne] at *
                      unfold formL
                      all_goals (repeat (first | rfl | (rw [if_neg (by omega)]) | (rw [if_pos (by omega)])))
                    · simp_all
                  · refine WP.reg hT hE [] rfl ?_ ?_
                    · first | trivial | (simp [holdsC, under, slOk, slB, capEq] <;> grind)
                    refine WP.cond rfl (fun h17 => ?_) (fun h17 => ?_)
                    · refine WP.seq ?_
                      refine WP.reg hT hE [] rfl ?_ ?_
                      · first | trivial | (simp [holdsC, under, slOk, slB, capEq] <;> grind)
                      refine WP.ret ?_
                      change Fin _ _ _ _ _ _ _ _
                      refine finS hT (by rfl) (formB_eq ?_)
                      simp only [band, Bool.and_eq_true, Bool.and_eq_false_iff, decide_eq_true_eq, decide_eq_false_iff_not, beq_iff_eq, beq_eq_false_iff_ne] at *
                      unfold formL
                      all_goals (repeat (first | rfl | (rw [if_neg (by omega)]) | (rw [if_pos (by omega)])))
                    · refine WP.seq ?_
                      refine WP.reg hT hE [] rfl ?_ ?_
                      · first | trivial | (simp [holdsC, under, slOk, slB, capEq] <;> grind)
                      refine WP.cond rfl (fun h19 => ?_) (fun h19 => ?_)
                      · refine WP.seq ?_
                        refine WP.reg hT hE [] rfl ?_ ?_
                        · first | trivial | (simp [holdsC, under, slOk, slB, capEq] <;> grind)
                        refine WP.ret ?_
                        change Fin _ _ _ _ _ _ _ _
                        refine finS hT (by rfl) (formB_eq ?_)
                        simp only [band, Bool.and_eq_true, Bool.and_eq_false_iff, decide_eq_true_eq, decide_eq_false_iff_not, beq_iff_eq, beq_eq_false_iff_ne] at *
                        unfold formL
                        all_goals (repeat (first | rfl | (rw [if_neg (by omega)]) | (rw [if_pos (by omega)])))
                      · refine WP.seq ?_
                        refine WP.reg hT hE [] rfl ?_ ?_
                        · first | trivial | (simp [holdsC, under, slOk, slB, capEq] <;> grind)
                        refine WP.cond rfl (fun h21 => ?_) (fun h21 => ?_)
                        · refine WP.seq ?_
                          refine WP.reg hT hE [] rfl ?_ ?_
                          · first | trivial | (simp [holdsC, under, slOk, slB, capEq] <;> grind)
                          refine WP.ret ?_
                          change Fin _ _ _ _ _ _ _ _
                          refine finS hT (by rfl) (formB_eq ?_)
                          simp only [band, Bool.and_eq_true, Bool.and_eq_false_iff, decide_eq_true_eq, decide_eq_false_iff_not, beq_iff_eq, beq_eq_false_iff_ne] at *
                          unfold formL
                          all_goals (repeat (first | rfl | (rw [if_neg (by omega)]) | (rw [if_pos (by omega)])))
                        · refine WP.seq ?_
                          refine WP.reg hT hE [] rfl ?_ ?_
                          · first | trivial | (simp [holdsC, under, slOk, slB, capEq] <;> grind)
                          refine WP.cond rfl (fun h23 => ?_) (fun h23 => ?_)
                          · refine WP.seq ?_
                            refine WP.reg hT hE [] rfl ?_ ?_
                            · first | trivial | (simp [holdsC, under, slOk, slB, capEq] <;> grind)
                            refine WP.ret ?_
                            change Fin _ _ _ _ _ _ _ _
                            refine finS hT (by rfl) (formB_eq ?_)
                            simp only [band, Bool.and_eq_true, Bool.and_eq_false_iff, decide_eq_true_eq, decide_eq_false_iff_not, beq_iff_eq, beq_eq_false_iff_ne] at *
                            unfold formL
                            all_goals (repeat (first | rfl | (rw [if_neg (by omega)]) | (rw [if_pos (by omega)])))
                          · refine WP.seq ?_
                            refine WP.reg hT hE [] rfl ?_ ?_
                            · first | trivial | (simp [holdsC, under, slOk, slB, capEq] <;> grind)
                            refine WP.cond rfl (fun h25 => ?_) (fun h25 => ?_)
                            · refine WP.seq ?_
                              refine WP.reg hT hE [] rfl ?_ ?_
                              · first | trivial | (simp [holdsC, under, slOk, slB, capEq] <;> grind)
                              refine WP.ret ?_
                              change Fin _ _ _ _ _ _ _ _
                              refine finS hT (by rfl) (formB_eq ?_)
                              simp only [band, Bool.and_eq_true, Bool.and_eq_false_iff, decide_eq_true_eq, decide_eq_false_iff_not, beq_iff_eq, beq_eq_false_iff_ne] at *
                              unfold formL
                              all_goals (repeat (first | rfl | (rw [if_neg (by omega)]) | (rw [if_pos (by omega)])))
                            · refine WP.seq ?_
                              refine WP.reg hT hE [] rfl ?_ ?_
                              · first | trivial | (simp [holdsC, under, slOk, slB, capEq] <;> grind)
                              refine WP.cond rfl (fun h27 => ?_) (fun h27 => ?_)
                              · refine WP.seq ?_
                                refine WP.reg hT hE [] rfl ?_ ?_
                                · first | trivial | (simp [holdsC, under, slOk, slB, capEq] <;> grind)
                                refine WP.ret ?_
                                change Fin _ _ _ _ _ _ _ _
                                refine finS hT (by rfl) (formB_eq ?_)
                                simp only [band, Bool.and_eq_true, Bool.and_eq_false_iff, decide_eq_true_eq, decide_eq_false_iff_not, beq_iff_eq, beq_eq_false_iff_ne] at *
                                unfold formL
                                all_goals (repeat (first | rfl | (rw [if_neg (by omega)]) | (rw [if_pos (by omega)])))
                              · refine WP.seq ?_
                                refine WP.seq ?_
                                refine WP.reg hT hE [] rfl ?_ ?_
                                · first | trivial | (simp [holdsC, under, slOk, slB, capEq] <;> grind)
                                refine WP.cond rfl (fun h29 => ?_) (fun h29 => ?_)
                                · refine WP.skip ?_
                                  refine WP.cond rfl (fun h29 => ?_) (fun h29 => ?_)
                                  · refine WP.seq ?_
                                    refine WP.reg hT hE [] rfl ?_ ?_
                                    · first | trivial | (simp [holdsC, under, slOk, slB, capEq] <;> grind)
                                    refine WP.ret ?_
                                    change Fin _ _ _ _ _ _ _ _
                                    refine finS hT (by rfl) (formB_eq ?_)
                                    simp only [band, Bool.and_eq_true, Bool.and_eq_false_iff, decide_eq_true_eq, decide_eq_false_iff_not, beq_iff_eq, beq_eq_false_iff_ne] at *
                                    unfold formL
                                    all_goals (repeat (first | rfl | (rw [if_neg (by omega)]) | (rw [if_pos (by omega)])))
                                  · simp_all
                                · refine WP.reg hT hE [] rfl ?_ ?_
                                  · first | trivial | (simp [holdsC, under, slOk, slB, capEq] <;> grind)
                                  refine WP.cond rfl (fun h30 => ?_) (fun h30 => ?_)
                                  · refine WP.seq ?_
                                    refine WP.reg hT hE [] rfl ?_ ?_
                                    · first | trivial | (simp [holdsC, under, slOk, slB, capEq] <;> grind)
                                    refine WP.ret ?_
                                    change Fin _ _ _ _ _ _ _ _
                                    refine finS hT (by rfl) (formB_eq ?_)
                                    simp only [band, Bool.and_eq_true, Bool.and_eq_false_iff, decide_eq_true_eq, decide_eq_false_iff_not, beq_iff_eq, beq_eq_false_iff_ne] at *
                                    unfold formL
                                    all_goals (repeat (first | rfl | (rw [if_neg (by omega)]) | (rw [if_pos (by omega)])))
                                  · refine WP.seq ?_
                                    refine WP.reg hT hE [] rfl ?_ ?_
                                    · first | trivial | (simp [holdsC, under, slOk, slB, capEq] <;> grind)
                                    refine WP.cond rfl (fun h32 => ?_) (fun h32 => ?_)
                                    · refine WP.seq ?_
                                      refine WP.reg hT hE [] rfl ?_ ?_
                                      · first | trivial | (simp [holdsC, under, slOk, slB, capEq] <;> grind)
                                      refine WP.ret ?_
                                      change Fin _ _ _ _ _ _ _ _
                                      refine finS hT (by rfl) (formB_eq ?_)
                                      simp only [band, Bool.and_eq_true, Bool.and_eq_false_iff, decide_eq_true_eq, decide_eq_false_iff_not, beq_iff_eq, beq_eq_false_iff_ne] at *
                                      unfold formL
                                      all_goals (repeat (first | rfl | (rw [if_neg (by omega)]) | (rw [if_pos (by omega)])))
                                    · refine WP.seq ?_
                                      refine WP.reg hT hE [] rfl ?_ ?_
                                      · first | trivial | (simp [holdsC, under, slOk, slB, capEq] <;> grind)
                                      refine WP.cond rfl (fun h34 => ?_) (fun h34 => ?_)
                                      · refine WP.seq ?_
                                        refine WP.reg hT hE [] rfl ?_ ?_
                                        · first | trivial | (simp [holdsC, under, slOk, slB, capEq] <;> grind)
                                        refine WP.ret ?_
                                        change Fin _ _ _ _ _ _ _ _
                                        refine finS hT (by rfl) (formB_eq ?_)
                                        simp only [band, Bool.and_eq_true, Bool.and_eq_false_iff, decide_eq_true_eq, decide_eq_false_iff_not, beq_iff_eq, beq_eq_false_iff_ne] at *
                                        unfold formL
                                        all_goals (repeat (first | rfl | (rw [if_neg (by omega)]) | (rw [if_pos (by omega)])))
                                      · refine WP.seq ?_
                                        refine WP.reg hT hE [] rfl ?_ ?_
                                        · first | trivial | (simp [holdsC, under, slOk, slB, capEq] <;> grind)
                                        refine WP.cond rfl (fun h36 => ?_) (fun h36 => ?_)
                                        · refine WP.seq ?_
                                          refine WP.reg hT hE [] rfl ?_ ?_
                                          · first | trivial | (simp [holdsC, under, slOk, slB, capEq] <;> grind)
                                          refine WP.ret ?_
                                          change Fin _ _ _ _ _ _ _ _
                                          refine finS hT (by rfl) (formB_eq ?_)
                                          simp only [band, Bool.and_eq_true, Bool.and_eq_false_iff, decide_eq_true_eq, decide_eq_false_iff_not, beq_iff_eq, beq_eq_false_iff_ne] at *
                                          unfold formL
                                          all_goals (repeat (first | rfl | (rw [if_neg (by omega)]) | (rw [if_pos (by omega)])))
                                        · refine WP.seq ?_
                                          refine WP.reg hT hE [] rfl ?_ ?_
                                          · first | trivial | (simp [holdsC, under, slOk, slB, capEq] <;> grind)
                                          refine WP.cond rfl (fun h38 => ?_) (fun h38 => ?_)
                                          · refine WP.seq ?_
                                            refine WP.reg hT hE [] rfl ?_ ?_
                                            · first | trivial | (simp [holdsC, under, slOk, slB, capEq] <;> grind)
                                            refine WP.ret ?_
                                            change Fin _ _ _ _ _ _ _ _
                                            refine finS hT (by rfl) (formB_eq ?_)
                                            simp only [band, Bool.and_eq_true, Bool.and_eq_false_iff, decide_eq_true_eq, decide_eq_false_iff_not, beq_iff_eq, beq_eq_false_iff_ne] at *
                                            unfold formL
                                            all_goals (repeat (first | rfl | (rw [if_neg (by omega)]) | (rw [if_pos (by omega)])))
                                          · refine WP.seq ?_
                                            refine WP.reg hT hE [] rfl ?_ ?_
                                            · first | trivial | (simp [holdsC, under, slOk, slB, capEq] <;> grind)
                                            refine WP.cond rfl (fun h40 => ?_) (fun h40 => ?_)
                                            · refine WP.seq ?_
                                              refine WP.reg hT hE [] rfl ?_ ?_
                                              · first | trivial | (simp [holdsC, under, slOk, slB, capEq] <;> grind)
                                              refine WP.ret ?_
                                              change Fin _ _ _ _ _ _ _ _
                                              refine finS hT (by rfl) (formB_eq ?_)
                                              simp only [band, Bool.and_eq_true, Bool.and_eq_false_iff, decide_eq_true_eq, decide_eq_false_iff_not, beq_iff_eq, beq_eq_false_iff_ne] at *
                                              unfold formL
                                              all_goals (repeat (first | rfl | (rw [if_neg (by omega)]) | (rw [if_pos (by omega)])))
                                            · refine WP.seq ?_
                                              refine WP.reg hT hE [] rfl ?_ ?_
                                              · first | trivial | (simp [holdsC, under, slOk, slB, capEq] <;> grind)
                                              refine WP.cond rfl (fun h42 => ?_) (fun h42 => ?_)
                                              · refine WP.seq ?_
                                                refine WP.reg hT hE [] rfl ?_ ?_
                                                · first | trivial | (simp [holdsC, under, slOk, slB, capEq] <;> grind)
                                                refine WP.ret ?_
                                                change Fin _ _ _ _ _ _ _ _
                                                refine finS hT (by rfl) (formB_eq ?_)
                                                simp only [band, Bool.and_eq_true, Bool.and_eq_false_iff, decide_eq_true_eq, decide_eq_false_iff_not, beq_iff_eq, beq_eq_false_iff_ne] at *
                                                unfold formL
                                                all_goals (repeat (first | rfl | (rw [if_neg (by omega)]) | (rw [if_pos (by omega)])))
                                              · refine WP.seq ?_
                                                refine WP.reg hT hE [] rfl ?_ ?_
                                                · first | trivial | (simp [holdsC, under, slOk, slB, capEq] <;> grind)
                                                refine WP.cond rfl (fun h44 => ?_) (fun h44 => ?_)
                                                · refine WP.seq ?_
                                                  refine WP.reg hT hE [] rfl ?_ ?_
                                                  · first | trivial | (simp [holdsC, under, slOk, slB, capEq] <;> grind)
                                                  refine WP.ret ?_
                                                  change Fin _ _ _ _ _ _ _ _
                                                  refine finS hT (by rfl) (formB_eq ?_)
                                                  simp only [band, Bool.and_eq_true, Bool.and_eq_false_iff, decide_eq_true_eq, decide_eq_false_iff_not, beq_iff_eq, beq_eq_false_iff_ne] at *
                                                  unfold formL
                                                  all_goals (repeat (first | rfl | (rw [if_neg (by omega)]) | (rw [if_pos (by omega)])))
                                                · refine WP.skip ?_
                                                  refine WP.seq ?_
                                                  refine WP.reg hT hE [] rfl ?_ ?_
                                                  · first | trivial | (simp [holdsC, under, slOk, slB, capEq] <;> grind)
                                                  refine WP.ret ?_
                                                  change Fin _ _ _ _ _ _ _ _
                                                  refine finS hT (by rfl) (formB_eq ?_)
                                                  simp only [band, Bool.and_eq_true, Bool.and_eq_false_iff, decide_eq_true_eq, decide_eq_false_iff_not, beq_iff_eq, beq_eq_false_iff_ne] at *
                                                  unfold formL
                                                  all_goals (repeat (first | rfl | (rw [if_neg (by omega)]) | (rw [if_pos (by omega)])))
theorem rform_ac (op : Int) : AC Tryz.prog T tysN 161 [.int op] [] (.v (.string (formB op))) [] := by
  refine AC_intro hT Tryz.func161 rfl rfl (Nat.le_of_ble_eq_true rfl) ?_
  refine WP.seq ?_
  refine WP.reg hT hE [] rfl ?_ ?_
  · first | trivial | (simp [holdsC, under, slOk, slB, capEq] <;> grind)
  refine WP.seq ?_
  refine WP.seq ?_
  refine WP.reg hT hE [] rfl ?_ ?_
  · first | trivial | (simp [holdsC, under, slOk, slB, capEq] <;> grind)
  refine WP.cond rfl (fun h1 => ?_) (fun h1 => ?_)
  · refine WP.seq ?_
    refine WP.reg hT hE [] rfl ?_ ?_
    · first | trivial | (simp [holdsC, under, slOk, slB, capEq] <;> grind)
    refine WP.ret ?_
    change Fin _ _ _ _ _ _ _ _
    refine finS hT (by rfl) (formB_eq ?_)
    simp only [band, Bool.and_eq_true, Bool.and_eq_false_iff, decide_eq_true_eq, decide_eq_false_iff_not, beq_iff_eq, beq_eq_false_iff_ne] at *
    unfold formL
    all_goals (repeat (first | rfl | (rw [if_neg (by omega)]) | (rw [if_pos (by omega)])))
  · refine WP.skip ?_
    refine WP.seq ?_
    refine WP.seq ?_
    refine WP.reg hT hE [] rfl ?_ ?_
    · first | trivial | (simp [holdsC, under, slOk, slB, capEq] <;> grind)
    refine WP.cond rfl (fun h3 => ?_) (fun h3 => ?_)
    · refine WP.seq ?_
      refine WP.reg hT hE [] rfl ?_ ?_
      · first | trivial | (simp [holdsC, under, slOk, slB, capEq] <;> grind)
      refine WP.ret ?_
      change Fin _ _ _ _ _ _ _ _
      refine finS hT (by rfl) (formB_eq ?_)
      simp only [band, Bool.and_eq_true, Bool.and_eq_false_iff, decide_eq_true_eq, decide_eq_false_iff_not, beq_iff_eq, beq_eq_false_iff_ne] at *
      unfold formL
      all_goals (repeat (first | rfl | (rw [if_neg (by omega)]) | (rw [if_pos (by omega)])))
    · refine WP.skip ?_
      refine WP.seq ?_
      refine WP.seq ?_
      refine WP.reg hT hE [] rfl ?_ ?_
      · first | trivial | (simp [holdsC, under, slOk, slB, capEq] <;> grind)
      refine WP.block ?_
      refine WP.seq ?_
      refine WP.reg hT hE [] rfl ?_ ?_
      · first | trivial | (simp [holdsC, under, slOk, slB, capEq] <;> grind)
      refine WP.cond rfl (fun h6 => ?_) (fun h6 => ?_)
      · refine WP.seq ?_
        refine WP.reg hT hE [] rfl ?_ ?_
        · first | trivial | (simp [holdsC, under, slOk, slB, capEq] <;> grind)
        refine WP.ret ?_
        change Fin _ _ _ _ _ _ _ _
        refine finS hT (by rfl) (formB_eq ?_)
        simp only [band, Bool.and_eq_true, Bool.and_eq_false_iff, decide_eq_true_eq, decide_eq_false_iff_not, beq_iff_eq, beq_eq_false_iff_ne] at *
        unfold formL
        all_goals (repeat (first | rfl | (rw [if_neg (by omega)]) | (rw [if_pos (by omega)])))
      · refine WP.seq ?_
        refine WP.reg hT hE [] rfl ?_ ?_
        · first | trivial | (simp [holdsC, under, slOk, slB, capEq] <;> grind)
        refine WP.cond rfl (fun h8 => ?_) (fun h8 => ?_)
        · refine WP.seq ?_
          refine WP.reg hT hE [] rfl ?_ ?_
          · first | trivial | (simp [holdsC, under, slOk, slB, capEq] <;> grind)
          refine WP.ret ?_
          change Fin _ _ _ _ _ _ _ _
          refine finS hT (by rfl) (formB_eq ?_)
          simp only [band, Bool.and_eq_true, Bool.and_eq_false_iff, decide_eq_true_eq, decide_eq_false_iff_not, beq_iff_eq, beq_eq_false_iff_ne] at *
          unfold formL
          all_goals (repeat (first | rfl | (rw [if_neg (by omega)]) | (rw [if_pos (by omega)])))
        · refine WP.seq ?_
          refine WP.reg hT hE [] rfl ?_ ?_
          · first | trivial | (simp [holdsC, under, slOk, slB, capEq] <;> grind)
          refine WP.cond rfl (fun h10 => ?_) (fun h10 => ?_)
          · refine WP.seq ?_
            refine WP.reg hT hE [] rfl ?_ ?_
            · first | trivial | (simp [holdsC, under, slOk, slB, capEq] <;> grind)
            refine WP.ret ?_
            change Fin _ _ _ _ _ _ _ _
            refine finS hT (by rfl) (formB_eq ?_)
            simp only [band, Bool.and_eq_true, Bool.and_eq_false_iff, decide_eq_true_eq, decide_eq_false_iff_not, beq_iff_eq, beq_eq_false_iff_ne] at *
            unfold formL
            all_goals (repeat (first | rfl | (rw [if_neg (by omega)]) | (rw [if_pos (by omega)])))
          · refine WP.seq ?_
            refine WP.reg hT hE [] rfl ?_ ?_
            · first | trivial | (simp [holdsC, under, slOk, slB, capEq] <;> grind)
            refine WP.cond rfl (fun h12 => ?_) (fun h12 => ?_)
            · refine WP.seq ?_
              refine WP.reg hT hE [] rfl ?_ ?_
              · first | trivial | (simp [holdsC, under, slOk, slB, capEq] <;> grind)
              refine WP.ret ?_
              change Fin _ _ _ _ _ _ _ _
              refine finS hT (by rfl) (formB_eq ?_)
              simp only [band, Bool.and_eq_true, Bool.and_eq_false_iff, decide_eq_true_eq, decide_eq_false_iff_not, beq_iff_eq, beq_eq_false_iff_ne] at *
              unfold formL
              all_goals (repeat (first | rfl | (rw [if_neg (by omega)]) | (rw [if_pos (by omega)])))
            · refine WP.seq ?_
              refine WP.reg hT hE [] rfl ?_ ?_
              · first | trivial | (simp [holdsC, under, slOk, slB, capEq] <;> grind)
              refine WP.cond rfl (fun h14 => ?_) (fun h14 => ?_)
              · refine WP.seq ?_
                refine WP.reg hT hE [] rfl ?_ ?_
                · first | trivial | (simp [holdsC, under, slOk, slB, capEq] <;> grind)
                refine WP.ret ?_
                change Fin _ _ _ _ _ _ _ _
                refine finS hT (by rfl) (formB_eq ?_)
                simp only [band, Bool.and_eq_true, Bool.and_eq_false_iff, decide_eq_true_eq, decide_eq_false_iff_not, beq_iff_eq, beq_eq_false_iff_ne] at *
                unfold formL
                all_goals (repeat (first | rfl | (rw [if_neg (by omega)]) | (rw [if_pos (by omega)])))
              · refine WP.seq ?_
                refine WP.reg hT hE [] rfl ?_ ?_
                · first | trivial | (simp [holdsC, under, slOk, slB, capEq] <;> grind)
                refine WP.cond rfl (fun h16 => ?_) (fun h16 => ?_)
                · refine WP.seq ?_
                  refine WP.reg hT hE [] rfl ?_ ?_
                  · first | trivial | (simp [holdsC, under, slOk, slB, capEq] <;> grind)
                  refine WP.ret ?_
                  change Fin _ _ _ _ _ _ _ _
                  refine finS hT (by rfl) (formB_eq ?_)
                  simp only [band, Bool.and_eq_true, Bool.and_eq_false_iff, decide_eq_true_eq, decide_eq_false_iff_not, beq_iff_eq, beq_eq_false_iff_ne] at *
                  unfold formL
                  all_goals (repeat (first | rfl | (rw [if_neg (by omega)]) | (rw [if_pos (by omega)])))
                · refine WP.seq ?_
                  refine WP.reg hT hE [] rfl ?_ ?_
                  · first | trivial | (simp [holdsC, under, slOk, slB, capEq] <;> grind)
                  refine WP.cond rfl (fun h18 => ?_) (fun h18 => ?_)
                  · refine WP.seq ?_
                    refine WP.reg hT hE [] rfl ?_ ?_
                    · first | trivial | (simp [holdsC, under, slOk, slB, capEq] <;> grind)
                    refine WP.ret ?_
                    change Fin _ _ _ _ _ _ _ _
                    refine finS hT (by rfl) (formB_eq ?_)
                    simp only [band, Bool.and_eq_true, Bool.and_eq_false_iff, decide_eq_true_eq, decide_eq_false_iff_not, beq_iff_eq, beq_eq_false_iff_ne] at *
                    unfold formL
                    all_goals (repeat (first | rfl | (rw [if_neg (by omega)]) | (rw [if_pos (by omega)])))
                  · refine WP.seq ?_
                    refine WP.reg hT hE [] rfl ?_ ?_
                    · first | trivial | (simp [holdsC, under, slOk, slB, capEq] <;> grind)
                    refine WP.cond rfl (fun h20 => ?_) (fun h20 => ?_)
                    · refine WP.seq ?_
                      refine WP.reg hT hE [] rfl ?_ ?_
                      · first | trivial | (simp [holdsC, under, slOk, slB, capEq] <;> grind)
                      refine WP.ret ?_
                      change Fin _ _ _ _ _ _ _ _
                      refine finS hT (by rfl) (formB_eq ?_)
                      simp only [band, Bool.and_eq_true, Bool.and_eq_false_iff, decide_eq_true_eq, decide_eq_false_iff_not, beq_iff_eq, beq_eq_false_iff_ne] at *
                      unfold formL
                      all_goals (repeat (first | rfl | (rw [if_neg (by omega)]) | (rw [if_pos (by omega)])))
                    · refine WP.seq ?_
                      refine WP.reg hT hE [] rfl ?_ ?_
                      · first | trivial | (simp [holdsC, under, slOk, slB, capEq] <;> grind)
                      refine WP.cond rfl (fun h22 => ?_) (fun h22 => ?_)
                      · refine WP.seq ?_
                        refine WP.reg hT hE [] rfl ?_ ?_
                        · first | trivial | (simp [holdsC, under, slOk, slB, capEq] <;> grind)
                        refine WP.ret ?_
                        change Fin _ _ _ _ _ _ _ _
                        refine finS hT (by rfl) (formB_eq ?_)
                        simp only [band, Bool.and_eq_true, Bool.and_eq_false_iff, decide_eq_true_eq, decide_eq_false_iff_not, beq_iff_eq, beq_eq_false_iff_ne] at *
                        unfold formL
                        all_goals (repeat (first | rfl | (rw [if_neg (by omega)]) | (rw [if_pos (by omega)])))
                      · refine WP.seq ?_
                        refine WP.reg hT hE [] rfl ?_ ?_
                        · first | trivial | (simp [holdsC, under, slOk, slB, capEq] <;> grind)
                        refine WP.cond rfl (fun h24 => ?_) (fun h24 => ?_)
                        · refine WP.seq ?_
                          refine WP.reg hT hE [] rfl ?_ ?_
                          · first | trivial | (simp [holdsC, under, slOk, slB, capEq] <;> grind)
                          refine WP.ret ?_
                          change Fin _ _ _ _ _ _ _ _
                          refine finS hT (by rfl) (formB_eq ?_)
                          simp only [band, Bool.and_eq_true, Bool.and_eq_false_iff, decide_eq_true_eq, decide_eq_false_iff_not, beq_iff_eq, beq_eq_false_iff_ne] at *
                          unfold formL
                          all_goals (repeat (first | rfl | (rw [if_neg (by omega)]) | (rw [if_pos (by omega)])))
                        · refine WP.seq ?_
                          refine WP.reg hT hE [] rfl ?_ ?_
                          · first | trivial | (simp [holdsC, under, slOk, slB, capEq] <;> grind)
                          refine WP.cond rfl (fun h26 => ?_) (fun h26 => ?_)
                          · refine WP.seq ?_
                            refine WP.reg hT hE [] rfl ?_ ?_
                            · first | trivial | (simp [holdsC, under, slOk, slB, capEq] <;> grind)
                            refine WP.ret ?_
                            change Fin _ _ _ _ _ _ _ _
                            refine finS hT (by rfl) (formB_eq ?_)
                            simp only [band, Bool.and_eq_true, Bool.and_eq_false_iff, decide_eq_true_eq, decide_eq_false_iff_not, beq_iff_eq, beq_eq_false_iff_ne] at *
                            unfold formL
                            all_goals (repeat (first | rfl | (rw [if_neg (by omega)]) | (rw [if_pos (by omega)])))
                          · refine WP.seq ?_
                            refine WP.seq ?_
                            refine WP.reg hT hE [] rfl ?_ ?_
                            · first | trivial | (simp [holdsC, under, slOk, slB, capEq] <;> grind)
                            refine WP.cond rfl (fun h28 => ?_) (fun h28 => ?_)
                            · refine WP.skip ?_
                              refine WP.cond rfl (fun h28 => ?_) (fun h28 => ?_)
                              · refine WP.seq ?_
                                refine WP.reg hT hE [] rfl ?_ ?_
                                · first | trivial | (simp [holdsC, under, slOk, slB, capEq] <;> grind)
                                refine WP.ret ?_
                                change Fin _ _ _ _ _ _ _ _
                                refine finS hT (by rfl) (formB_eq ?_)
                                simp only [band, Bool.and_eq_true, Bool.and_eq_false_iff, decide_eq_true_eq, decide_eq_false_iff_not, beq_iff_eq, beq_eq_false_iff_ne] at *
                                unfold formL
                                all_goals (repeat (first | rfl | (rw [if_neg (by omega)]) | (rw [if_pos (by omega)])))
                              · simp_all
                            · refine WP.reg hT hE [] rfl ?_ ?_
                              · first | trivial | (simp [holdsC, under, slOk, slB, capEq] <;> grind)
                              refine WP.cond rfl (fun h29 => ?_) (fun h29 => ?_)
                              · refine WP.seq ?_
                                refine WP.reg hT hE [] rfl ?_ ?_
                                · first | trivial | (simp [holdsC, under, slOk, slB, capEq] <;> grind)
                                refine WP.ret ?_
                                change Fin _ _ _ _ _ _ _ _
                                refine finS hT (by rfl) (formB_eq ?_)
                                simp only [band, Bool.and_eq_true, Bool.and_eq_false_iff, decide_eq_true_eq, decide_eq_false_iff_not, beq_iff_eq, beq_eq_false_iff_ne] at *
                                unfold formL
                                all_goals (repeat (first | rfl | (rw [if_neg (by omega)]) | (rw [if_pos (by omega)])))
                              · refine WP.seq ?_
                                refine WP.reg hT hE [] rfl ?_ ?_
                                · first | trivial | (simp [holdsC, under, slOk, slB, capEq] <;> grind)
                                refine WP.cond rfl (fun h31 => ?_) (fun h31 => ?_)
                                · refine WP.seq ?_
                                  refine WP.reg hT hE [] rfl ?_ ?_
                                  · first | trivial | (simp [holdsC, under, slOk, slB, capEq] <;> grind)
                                  refine WP.ret ?_
                                  change Fin _ _ _ _ _ _ _ _
                                  refine finS hT (by rfl) (formB_eq ?_)
                                  simp only [band, Bool.and_eq_true, Bool.and_eq_false_iff, decide_eq_true_eq, decide_eq_false_iff_not, beq_iff_eq, beq_eq_false_iff_ne] at *
                                  unfold formL
                                  all_goals (repeat (first | rfl | (rw [if_neg (by omega)]) | (rw [if_pos (by omega)])))
                                · refine WP.seq ?_
                                  refine WP.reg hT hE [] rfl ?_ ?_
                                  · first | trivial | (simp [holdsC, under, slOk, slB, capEq] <;> grind)
                                  refine WP.cond rfl (fun h33 => ?_) (fun h33 => ?_)
                                  · refine WP.seq ?_
                                    refine WP.reg hT hE [] rfl ?_ ?_
                                    · first | trivial | (simp [holdsC, under, slOk, slB, capEq] <;> grind)
                                    refine WP.ret ?_
                                    change Fin _ _ _ _ _ _ _ _
                                    refine finS hT (by rfl) (formB_eq ?_)
                                    simp only [band, Bool.and_eq_true, Bool.and_eq_false_iff, decide_eq_true_eq, decide_eq_false_iff_not, beq_iff_eq, beq_eq_false_iff_ne] at *
                                    unfold formL
                                    all_goals (repeat (first | rfl | (rw [if_neg (by omega)]) | (rw [if_pos (by omega)])))
                                  · refine WP.seq ?_
                                    refine WP.reg hT hE [] rfl ?_ ?_
                                    · first | trivial | (simp [holdsC, under, slOk, slB, capEq] <;> grind)
                                    refine WP.cond rfl (fun h35 => ?_) (fun h35 => ?_)
                                    · refine WP.seq ?_
                                      refine WP.reg hT hE [] rfl ?_ ?_
                                      · first | trivial | (simp [holdsC, under, slOk, slB, capEq] <;> grind)
                                      refine WP.ret ?_
                                      change Fin _ _ _ _ _ _ _ _
                                      refine finS hT (by rfl) (formB_eq ?_)
                                      simp only [band, Bool.and_eq_true, Bool.and_eq_false_iff, decide_eq_true_eq, decide_eq_false_iff_not, beq_iff_eq, beq_eq_false_iff_ne] at *
                                      unfold formL
                                      all_goals (repeat (first | rfl | (rw [if_neg (by omega)]) | (rw [if_pos (by omega)])))
                                    · refine WP.seq ?_
                                      refine WP.reg hT hE [] rfl ?_ ?_
                                      · first | trivial | (simp [holdsC, under, slOk, slB, capEq] <;> grind)
                                      refine WP.cond rfl (fun h37 => ?_) (fun h37 => ?_)
                                      · refine WP.seq ?_
                                        refine WP.reg hT hE [] rfl ?_ ?_
                                        · first | trivial | (simp [holdsC, under, slOk, slB, capEq] <;> grind)
                                        refine WP.ret ?_
                                        change Fin _ _ _ _ _ _ _ _
                                        refine finS hT (by rfl) (formB_eq ?_)
                                        simp only [band, Bool.and_eq_true, Bool.and_eq_false_iff, decide_eq_true_eq, decide_eq_false_iff_not, beq_iff_eq, beq_eq_false_iff_ne] at *
                                        unfold formL
                                        all_goals (repeat (first | rfl | (rw [if_neg (by omega)]) | (rw [if_pos (by omega)])))
                                      · refine WP.seq ?_
                                        refine WP.reg hT hE [] rfl ?_ ?_
                                        · first | trivial | (simp [holdsC, under, slOk, slB, capEq] <;> grind)
                                        refine WP.cond rfl (fun h39 => ?_) (fun h39 => ?_)
                                        · refine WP.seq ?_
                                          refine WP.reg hT hE [] rfl ?_ ?_
                                          · first | trivial | (simp [holdsC, under, slOk, slB, capEq] <;> grind)
                                          refine WP.ret ?_
                                          change Fin _ _ _ _ _ _ _ _
                                          refine finS hT (by rfl) (formB_eq ?_)
                                          simp only [band, Bool.and_eq_true, Bool.and_eq_false_iff, decide_eq_true_eq, decide_eq_false_iff_not, beq_iff_eq, beq_eq_false_iff_ne] at *
                                          unfold formL
                                          all_goals (repeat (first | rfl | (rw [if_neg (by omega)]) | (rw [if_pos (by omega)])))
                                        · refine WP.seq ?_
                                          refine WP.reg hT hE [] rfl ?_ ?_
                                          · first | trivial | (simp [holdsC, under, slOk, slB, capEq] <;> grind)
                                          refine WP.cond rfl (fun h41 => ?_) (fun h41 => ?_)
                                          · refine WP.seq ?_
                                            refine WP.reg hT hE [] rfl ?_ ?_
                                            · first | trivial | (simp [holdsC, under, slOk, slB, capEq] <;> grind)
                                            refine WP.ret ?_
                                            change Fin _ _ _ _ _ _ _ _
                                            refine finS hT (by rfl) (formB_eq ?_)
                                            simp only [band, Bool.and_eq_true, Bool.and_eq_false_iff, decide_eq_true_eq, decide_eq_false_iff_not, beq_iff_eq, beq_eq_false_iff_ne] at *
                                            unfold formL
                                            all_goals (repeat (first | rfl | (rw [if_neg (by omega)]) | (rw [if_pos (by omega)])))
                                          · refine WP.seq ?_
                                            refine WP.reg hT hE [] rfl ?_ ?_
                                            · first | trivial | (simp [holdsC, under, slOk, slB, capEq] <;> grind)
                                            refine WP.cond rfl (fun h43 => ?_) (fun h43 => ?_)
                                            · refine WP.seq ?_
                                              refine WP.reg hT hE [] rfl ?_ ?_
                                              · first | trivial | (simp [holdsC, under, slOk, slB, capEq] <;> grind)
                                              refine WP.ret ?_
                                              change Fin _ _ _ _ _ _ _ _
                                              refine finS hT (by rfl) (formB_eq ?_)
                                              simp only [band, Bool.and_eq_true, Bool.and_eq_false_iff, decide_eq_true_eq, decide_eq_false_iff_not, beq_iff_eq, beq_eq_false_iff_ne] at *
                                              unfold formL
                                              all_goals (repeat (first | rfl | (rw [if_neg (by omega)]) | (rw [if_pos (by omega)])))
                                            · refine WP.seq ?_
                                              refine WP.reg hT hE [] rfl ?_ ?_
                                              · first | trivial | (simp [holdsC, under, slOk, slB, capEq] <;> grind)
                                              refine WP.cond rfl (fun h45 => ?_) (fun h45 => ?_)
                                              · refine WP.seq ?_
                                                refine WP.reg hT hE [] rfl ?_ ?_
                                                · first | trivial | (simp [holdsC, under, slOk, slB, capEq] <;> grind)
                                                refine WP.ret ?_
                                                change Fin _ _ _ _ _ _ _ _
                                                refine finS hT (by rfl) (formB_eq ?_)
                                                simp only [band, Bool.and_eq_true, Bool.and_eq_false_iff, decide_eq_true_eq, decide_eq_false_iff_not, beq_iff_eq, beq_eq_false_iff_ne] at *
                                                unfold formL
                                                all_goals (repeat (first | rfl | (rw [if_neg (by omega)]) | (rw [if_pos (by omega)])))
                                              · refine WP.seq ?_
                                                refine WP.reg hT hE [] rfl ?_ ?_
                                                · first | trivial | (simp [holdsC, under, slOk, slB, capEq] <;> grind)
                                                refine WP.cond rfl (fun h47 => ?_) (fun h47 => ?_)
                                                · refine WP.seq ?_
                                                  refine WP.reg hT hE [] rfl ?_ ?_
                                                  · first | trivial | (simp [holdsC, under, slOk, slB, capEq] <;> grind)
                                                  refine WP.ret ?_
                                                  change Fin _ _ _ _ _ _ _ _
                                                  refine finS hT (by rfl) (formB_eq ?_)
                                                  simp only [band, Bool.and_eq_true, Bool.and_eq_false_iff, decide_eq_true_eq, decide_eq_false_iff_not, beq_iff_eq, beq_eq_false_iff_ne] at *
                                                  unfold formL
                                                  all_goals (repeat (first | rfl | (rw [if_neg (by omega)]) | (rw [if_pos (by omega)])))
                                                · refine WP.skip ?_
                                                  refine WP.seq ?_
                                                  refine WP.reg hT hE [] rfl ?_ ?_
                                                  · first | trivial | (simp [holdsC, under, slOk, slB, capEq] <;> grind)
                                                  refine WP.ret ?_
                                                  change Fin _ _ _ _ _ _ _ _
                                                  refine finS hT (by rfl) (formB_eq ?_)
                                                  simp only [band, Bool.and_eq_true, Bool.and_eq_false_iff, decide_eq_true_eq, decide_eq_false_iff_not, beq_iff_eq, beq_eq_false_iff_ne] at *
                                                  unfold formL
                                                  all_goals (repeat (first | rfl | (rw [if_neg (by omega)]) | (rw [if_pos (by omega)])))
end Go.Ab


/- What is wrong with an instruction. -/
set_option autoImplicit false
set_option maxRecDepth 20000
set_option maxHeartbeats 4000000
set_option linter.unusedSimpArgs false
set_option linter.unusedVariables false
namespace Go.Ab
open Go.Proofs
def locB (op : Int) : Bool := (decide (op ≥ 1) && decide (op ≤ 36)) || (decide (op ≥ 40) && decide (op ≤ 45))
def visB (op : Int) : Bool := decide (op ≥ 50) && decide (op ≤ 65)
theorem rlocal_ac (op : Int) : AC Tryz.prog T tysN 159 [.int op] [] (.bool (locB op)) [] := by
  refine AC_intro hT Tryz.func159 rfl rfl (Nat.le_of_ble_eq_true rfl) ?_
  refine WP.seq ?_
  refine WP.reg hT hE [] rfl ?_ ?_
  · first | trivial | (simp [holdsC, under, slOk, slB, capEq] <;> grind)
  refine WP.seq ?_
  refine WP.reg hT hE [] rfl ?_ ?_
  · first | trivial | (simp [holdsC, under, slOk, slB, capEq] <;> grind)
  refine WP.ret ?_
  change Fin _ _ _ _ _ _ _ _
  exact fin1 hT (by rfl) (by rw [band, band, bor]; rfl)
theorem rvisible_ac (op : Int) : AC Tryz.prog T tysN 160 [.int op] [] (.bool (visB op)) [] := by
  refine AC_intro hT Tryz.func160 rfl rfl (Nat.le_of_ble_eq_true rfl) ?_
  refine WP.seq ?_
  refine WP.reg hT hE [] rfl ?_ ?_
  · first | trivial | (simp [holdsC, under, slOk, slB, capEq] <;> grind)
  refine WP.seq ?_
  refine WP.reg hT hE [] rfl ?_ ?_
  · first | trivial | (simp [holdsC, under, slOk, slB, capEq] <;> grind)
  refine WP.ret ?_
  change Fin _ _ _ _ _ _ _ _
  exact fin1 hT (by rfl) (by rw [band]; rfl)
def opL (x : PIns) : List Int := [x.a, x.b, x.c, x.n]
def opA (x : PIns) : AV := arrI 227 4 .i64 (opL x)
theorem form_ind {Q : List UInt8 → Prop} (op : Int) (h0 : 1 ≤ op ∧ op ≤ 15 → Q [114, 114, 45, 45]) (h1 : 16 ≤ op ∧ op ≤ 36 → Q [114, 114, 114, 45]) (h2 : op = 40 ∨ op = 44 ∨ op = 65 → Q [114, 45, 45, 110]) (h3 : op = 41 → Q [114, 114, 45, 45]) (h4 : op = 42 → Q [116, 45, 45, 45]) (h5 : op = 43 → Q [114, 116, 45, 45]) (h6 : op = 45 ∨ op = 64 → Q [45, 45, 45, 45]) (h7 : op = 50 → Q [114, 118, 45, 45]) (h8 : op = 51 → Q [118, 114, 45, 45]) (h9 : op = 52 → Q [111, 97, 114, 45]) (h10 : op = 53 → Q [114, 97, 114, 119]) (h11 : op = 54 → Q [97, 114, 45, 45]) (h12 : op = 55 ∨ op = 56 → Q [108, 45, 45, 45]) (h13 : op = 57 → Q [114, 108, 45, 45]) (h14 : op = 58 → Q [99, 114, 45, 45]) (h15 : op = 59 → Q [111, 99, 111, 45]) (h16 : op = 60 → Q [99, 45, 45, 45]) (h17 : op = 61 → Q [115, 45, 45, 45]) (h18 : op = 62 → Q [111, 102, 112, 45]) (h19 : op = 63 → Q [114, 45, 45, 45]) (hn : ¬ (1 ≤ op ∧ op ≤ 36) ∧ ¬ (40 ≤ op ∧ op ≤ 45) ∧ ¬ (50 ≤ op ∧ op ≤ 65) → Q []) : Q (formL op) := by
  unfold formL
  by_cases c0 : 1 ≤ op ∧ op ≤ 15
  · rw [if_pos c0]; exact h0 c0
  rw [if_neg c0]
  by_cases c1 : 16 ≤ op ∧ op ≤ 36
  · rw [if_pos c1]; exact h1 c1
  rw [if_neg c1]
  by_cases c2 : op = 40 ∨ op = 44 ∨ op = 65
  · rw [if_pos c2]; exact h2 c2
  rw [if_neg c2]
  by_cases c3 : op = 41
  · rw [if_pos c3]; exact h3 c3
  rw [if_neg c3]
  by_cases c4 : op = 42
  · rw [if_pos c4]; exact h4 c4
  rw [if_neg c4]
  by_cases c5 : op = 43
  · rw [if_pos c5]; exact h5 c5
  rw [if_neg c5]
  by_cases c6 : op = 45 ∨ op = 64
  · rw [if_pos c6]; exact h6 c6
  rw [if_neg c6]
  by_cases c7 : op = 50
  · rw [if_pos c7]; exact h7 c7
  rw [if_neg c7]
  by_cases c8 : op = 51
  · rw [if_pos c8]; exact h8 c8
  rw [if_neg c8]
  by_cases c9 : op = 52
  · rw [if_pos c9]; exact h9 c9
  rw [if_neg c9]
  by_cases c10 : op = 53
  · rw [if_pos c10]; exact h10 c10
  rw [if_neg c10]
  by_cases c11 : op = 54
  · rw [if_pos c11]; exact h11 c11
  rw [if_neg c11]
  by_cases c12 : op = 55 ∨ op = 56
  · rw [if_pos c12]; exact h12 c12
  rw [if_neg c12]
  by_cases c13 : op = 57
  · rw [if_pos c13]; exact h13 c13
  rw [if_neg c13]
  by_cases c14 : op = 58
  · rw [if_pos c14]; exact h14 c14
  rw [if_neg c14]
  by_cases c15 : op = 59
  · rw [if_pos c15]; exact h15 c15
  rw [if_neg c15]
  by_cases c16 : op = 60
  · rw [if_pos c16]; exact h16 c16
  rw [if_neg c16]
  by_cases c17 : op = 61
  · rw [if_pos c17]; exact h17 c17
  rw [if_neg c17]
  by_cases c18 : op = 62
  · rw [if_pos c18]; exact h18 c18
  rw [if_neg c18]
  by_cases c19 : op = 63
  · rw [if_pos c19]; exact h19 c19
  rw [if_neg c19]
  exact hn (by omega)
theorem opA_of (x : PIns) : (AV.agg 227 4 fun q => bif Nat.beq q 3 then .int x.n else bif Nat.beq q 2 then .int x.c else bif Nat.beq q 1 then .int x.b else bif Nat.beq q 0 then .int x.a else .int 0) = opA x := agg_ext (fun q => by match q with | 0 | 1 | 2 | 3 | q + 4 => rfl)
theorem form_none (op : Int) : (formL op = []) ↔ locB op = false ∧ visB op = false := by
  have hb : (locB op = false ∧ visB op = false) ↔ ¬ (1 ≤ op ∧ op ≤ 36) ∧ ¬ (40 ≤ op ∧ op ≤ 45) ∧ ¬ (50 ≤ op ∧ op ≤ 65) := by
    unfold locB visB
    simp only [Bool.or_eq_false_iff, Bool.and_eq_false_iff, decide_eq_false_iff_not]
    omega
  rw [hb]
  refine form_ind (Q := fun l => l = [] ↔ _) op ?_ ?_ ?_ ?_ ?_ ?_ ?_ ?_ ?_ ?_ ?_ ?_ ?_ ?_ ?_ ?_ ?_ ?_ ?_ ?_ ?_
  all_goals (intro h; constructor <;> intro k)
  all_goals (first | rfl | exact h | (exfalso; omega) | (exact absurd k (List.cons_ne_nil _ _)))
theorem form_len {op : Int} (h : formL op ≠ []) : (formL op).length = 4 := by
  revert h
  refine form_ind (Q := fun l => l ≠ [] → l.length = 4) op ?_ ?_ ?_ ?_ ?_ ?_ ?_ ?_ ?_ ?_ ?_ ?_ ?_ ?_ ?_ ?_ ?_ ?_ ?_ ?_ ?_
  all_goals (intro _ h; first | rfl | exact absurd rfl h)
/-- The letter of an operand. -/
def letF (op : Int) (k : Nat) : Int := byteAt (formB op) k
theorem let_at (op : Int) (k : Nat) : letF op k = (((formL op)[k]?.getD 0).toNat : Nat) := by
  unfold letF byteAt formB
  congr 2
  by_cases h : k < (formL op).length
  · have h1 : k < (⟨(formL op).toArray⟩ : ByteArray).size := by simpa [ByteArray.size] using h
    rw [getElem?_pos (⟨(formL op).toArray⟩ : ByteArray) k h1, getElem?_pos (formL op) k h]
    rfl
  · have h1 : ¬ k < (⟨(formL op).toArray⟩ : ByteArray).size := by simpa [ByteArray.size] using h
    rw [getElem?_neg (⟨(formL op).toArray⟩ : ByteArray) k h1, getElem?_neg (formL op) k h]
/-- The letter of parameters stands behind the one of a function. -/
theorem let_par {op : Int} {k : Nat} (h : letF op k = 112) : k = 2 ∧ letF op 1 = 102 := by
  rw [let_at] at h ⊢
  revert h
  refine form_ind (Q := fun l => ((l[k]?.getD 0).toNat : Int) = 112 → k = 2 ∧ ((l[1]?.getD 0).toNat : Int) = 102) op ?_ ?_ ?_ ?_ ?_ ?_ ?_ ?_ ?_ ?_ ?_ ?_ ?_ ?_ ?_ ?_ ?_ ?_ ?_ ?_ ?_
  all_goals (intro _ h; match k, h with
    | 0, h | 1, h | 2, h | 3, h => first | exact ⟨rfl, rfl⟩ | (exact absurd h (by decide))
    | k + 4, h => exact absurd h (by simp))
def anyTo (p : Nat → Bool) : Nat → Bool
  | 0 => false
  | i + 1 => anyTo p i || p i
theorem anyTo_bad {p : Nat → Bool} {i : Nat} (h : p i = true) : ∀ {n : Nat}, i < n → anyTo p n = true
  | n + 1, hn => by
    rw [anyTo, Bool.or_eq_true]
    by_cases e : i = n
    · subst e; exact .inr h
    · exact .inl (anyTo_bad h (by omega))
theorem bt_loop (b : ByteArray) : ∀ (n i : Nat) (r : List UInt8), b.size - i = n → (ByteArray.toList.loop b i r).length = r.length + (b.size - i)
  | 0, i, r, h => by
    unfold ByteArray.toList.loop
    rw [if_neg (by omega), List.length_reverse]; omega
  | n + 1, i, r, h => by
    unfold ByteArray.toList.loop
    rw [if_pos (by omega), bt_loop b n (i + 1) _ (by omega), List.length_cons]; omega
theorem bt_len (b : ByteArray) : b.toList.length = b.size := by
  unfold ByteArray.toList
  have := bt_loop b _ 0 [] rfl
  simpa using this
theorem form_eq0 {op : Int} (h : ((formB op).toList == (⟨#[]⟩ : ByteArray).toList) = true) : formL op = [] := by
  have h1 : (formB op).toList = (⟨#[]⟩ : ByteArray).toList := by simpa using h
  have h2 := congrArg List.length h1
  rw [bt_len, bt_len] at h2
  have h3 : (formL op).length = 0 := by simpa [formB, ByteArray.size] using h2
  exact List.eq_nil_of_length_eq_zero h3
theorem form_ne0 {op : Int} (h : ((formB op).toList == (⟨#[]⟩ : ByteArray).toList) = false) : formL op ≠ [] := by
  intro e
  have : formB op = ⟨#[]⟩ := by rw [formB, e]
  rw [this] at h
  simp at h
def unB (x : PIns) (k : Nat) : Bool := letF x.op k == 45 && (opL x).getD k 0 != 0
def errTo (p : PProg) (f : PFun) (x : PIns) : Nat → Int
  | 0 => 0
  | k + 1 => if errTo p f x k ≠ 0 then errTo p f x k else opndF p f (letF x.op k) ((opL x).getD k 0) x
def instrF (p : PProg) (f : PFun) (x : PIns) : Int :=
  if formL x.op = [] then 33 else if anyTo (unB x) 4 then 34 else errTo p f x 4
theorem form_size {op : Int} (h : formL op ≠ []) : (formB op).size = 4 := by
  have := form_len h
  simpa [formB, ByteArray.size] using this
theorem err_first {p : PProg} {f : PFun} {x : PIns} {k : Nat} (h : errTo p f x k = 0) (hb : opndF p f (letF x.op k) ((opL x).getD k 0) x ≠ 0) : ∀ {n : Nat}, k < n → errTo p f x n = opndF p f (letF x.op k) ((opL x).getD k 0) x
  | n + 1, hn => by
    by_cases e : k = n
    · subst e
      rw [errTo, h, if_neg (by simp)]
    · have ih := err_first h hb (n := n) (by omega)
      rw [errTo, ih, if_pos hb]
theorem par_ok {p : PProg} {f : PFun} {x : PIns} {k : Nat} (h : errTo p f x k = 0) (hc : letF x.op k = 112) : 0 ≤ x.b ∧ x.b < p.funcs.length := by
  obtain ⟨rfl, h1⟩ := let_par hc
  have h2 : opndF p f (letF x.op 1) ((opL x).getD 1 0) x = 0 := by
    have e : errTo p f x 2 = if errTo p f x 1 ≠ 0 then errTo p f x 1 else opndF p f (letF x.op 1) ((opL x).getD 1 0) x := rfl
    rw [e] at h
    split at h
    · rename_i hne; exact absurd h hne
    · exact h
  rw [h1] at h2
  exact objF_ok h2
theorem operands_ac (x : PIns) : AC Tryz.prog T tysN 174 [encIns x] [] (opA x) [] := by
  refine AC_intro hT Tryz.func174 rfl rfl (Nat.le_of_ble_eq_true rfl) ?_
  refine WP.seq ?_
  refine WP.reg hT hE [] rfl ?_ ?_
  · first | trivial | (simp [holdsC, under, slOk, slB, capEq] <;> grind)
  refine WP.seq ?_
  refine WP.reg hT hE [] rfl ?_ ?_
  · first | trivial | (simp [holdsC, under, slOk, slB, capEq] <;> grind)
  refine WP.ret ?_
  change Fin _ _ _ _ _ _ _ _
  refine Fin.ent (Ent.mk (P := Tryz.prog) hT [] (ts := [(2, .ptr (.s 2 0) 1 0 [])]) (ms := [(.s 2 0, .cells ⟨227, 1, fun _ => opA x, 0⟩)]) trivial ⟨⟨rfl, _, rfl, conv_eq rfl⟩, trivial⟩ ⟨⟨fun _ _ => okIds_agg (fun _ _ => rfl), .inl ⟨_, rfl, _, _, rfl, Nat.le_refl _, Nat.zero_le _, Nat.zero_le _, fun q hq => by (obtain rfl : q = 0 := (by simp at hq; exact hq)); exact conv_eq (opA_of x)⟩⟩, trivial⟩ rfl) ?_
  refine fin_mk hT [(.s 2 0, 1)] (ts := [(2, .rp 227 (opA x))]) (l := [opA x]) ⟨⟨_, rfl, Nat.le_refl _⟩, trivial⟩ ⟨⟨rfl, _, rfl, conv_rpe rfl rfl (by simp [lookF, idbeq_self]) rfl rfl noIds_arrI⟩, trivial⟩ trivial rfl rfl rfl
theorem instr_ac (p : PProg) (f : PFun) (x : PIns) : AC Tryz.prog T tysN 134 [.rp 196 (encCk p f), encIns x] [] (.int (instrF p f x)) [] := by
  refine AC_intro hT Tryz.func134 rfl rfl (Nat.le_of_ble_eq_true rfl) ?_
  refine WP.seq ?_
  refine WP.reg hT hE [] rfl ?_ ?_
  · first | trivial | (simp [holdsC, under, slOk, slB, capEq] <;> grind)
  refine WP.seq ?_
  refine WP.reg hT hE [CG.pure (.v (.string (formB x.op)))] rfl ?_ ?_
  · have hf := form_ac x.op
    simp [holdsC, under, CG.pure]
    exact hf
  refine WP.seq ?_
  refine WP.seq ?_
  refine WP.reg hT hE [] rfl ?_ ?_
  · first | trivial | (simp [holdsC, under, slOk, slB, capEq] <;> grind)
  refine WP.cond rfl (fun h2 => ?_) (fun h2 => ?_)
  · have hno : formL x.op = [] := form_eq0 h2
    refine WP.seq ?_
    refine WP.reg hT hE [] rfl ?_ ?_
    · first | trivial | (simp [holdsC, under, slOk, slB, capEq] <;> grind)
    refine WP.ret ?_
    change Fin _ _ _ _ _ _ _ _
    exact finI hT (by rfl) (by rw [instrF, if_pos hno])
  · have hne : formL x.op ≠ [] := form_ne0 h2
    have hsz := form_size hne
    refine WP.skip ?_
    refine WP.seq ?_
    refine WP.reg hT hE [CG.pure (opA x)] rfl ?_ ?_
    · have ho := operands_ac x
      simp [holdsC, under, CG.pure]
      exact ho
    refine WP.seq ?_
    refine WP.seq ?_
    refine WP.reg hT hE [] rfl ?_ ?_
    · first | trivial | (simp [holdsC, under, slOk, slB, capEq] <;> grind)
    refine WP.block ?_
    refine WP.loop (α := Nat) (fun k => mkSt [(0, .rp 196 (encCk p f)), (3, .rp 162 (encIns x)), (5, .v (.string (formB x.op))), (6, .rp 227 (opA x)), (19, opA x), (20, .int k)] []) (fun k => k ≤ 4 ∧ anyTo (unB x) k = false) (fun k => 4 - k) ?_ ?_
    · refine ⟨0, ?_, ?_⟩
      · exact ⟨Nat.zero_le _, rfl⟩
      · refine Ent.mk hT [(.s 3 0, 1), (.s 6 0, 1)] ⟨⟨_, rfl, Nat.le_refl _⟩, ⟨_, rfl, Nat.le_refl _⟩, trivial⟩ ⟨⟨rfl, _, rfl, by first | exact conv_eq rfl | (refine conv_eq ?_; rw [wrap_id (by omega) (by omega)]; simp; done) | (refine conv_eq ?_; simp; done)⟩, ⟨rfl, _, rfl, conv_rpe rfl rfl (by decide) rfl rfl rfl⟩, ⟨rfl, _, rfl, by first | exact conv_eq rfl | (refine conv_eq ?_; rw [wrap_id (by omega) (by omega)]; simp; done) | (refine conv_eq ?_; simp; done)⟩, ⟨rfl, _, rfl, conv_rpe rfl rfl (by decide) rfl rfl rfl⟩, ⟨rfl, _, rfl, by first | exact conv_eq rfl | (refine conv_eq ?_; rw [wrap_id (by omega) (by omega)]; simp; done) | (refine conv_eq ?_; simp; done)⟩, ⟨rfl, _, rfl, by first | exact conv_eq rfl | (refine conv_eq ?_; rw [wrap_id (by omega) (by omega)]; simp; done) | (refine conv_eq ?_; simp; done)⟩, trivial⟩ trivial rfl
    · rintro k ⟨hk, hn⟩
      refine WP.seq ?_
      refine WP.reg hT hE [] rfl ?_ ?_
      · first | trivial | (simp [holdsC, under, slOk, slB, capEq] <;> grind)
      refine WP.seq ?_
      refine WP.cond rfl (fun h6 => ?_) (fun h6 => ?_)
      · have hk4 : k < 4 := by simp at h6; omega
        refine WP.skip ?_
        refine WP.seq ?_
        refine WP.block ?_
        refine WP.seq ?_
        refine WP.reg hT hE [] rfl ?_ ?_
        · simp [holdsC, under]; omega
        refine WP.seq ?_
        refine WP.reg hT hE [] rfl ?_ ?_
        · simp [holdsC, under, hsz]; omega
        refine WP.cond rfl (fun h8 => ?_) (fun h8 => ?_)
        · have hb : unB x k = true := by
            have e : (bif letF x.op k == 45 then (opL x).getD k 0 != 0 else false) = true := h8
            rwa [band] at e
          refine WP.seq ?_
          refine WP.reg hT hE [] rfl ?_ ?_
          · first | trivial | (simp [holdsC, under, slOk, slB, capEq] <;> grind)
          refine WP.ret ?_
          change Fin _ _ _ _ _ _ _ _
          exact finI hT (by rfl) (by rw [instrF, if_neg hne, anyTo_bad hb hk4, if_pos rfl])
        · have hb : unB x k = false := by
            have e : (bif letF x.op k == 45 then (opL x).getD k 0 != 0 else false) = false := h8
            rwa [band] at e
          refine WP.skip ?_
          refine WP.reg hT hE [] rfl ?_ ?_
          · first | trivial | (simp [holdsC, under, slOk, slB, capEq] <;> grind)
          refine ⟨k + 1, ?_, ?_, ?_⟩
          · exact ⟨hk4, by rw [anyTo, hn, hb]; rfl⟩
          · refine Ent.mk hT [] trivial ⟨⟨rfl, _, rfl, by first | exact conv_eq rfl | (refine conv_eq ?_; rw [wrap_id (by omega) (by omega)]; simp; done) | (refine conv_eq ?_; simp; done)⟩, ⟨rfl, _, rfl, by first | exact conv_eq rfl | (refine conv_eq ?_; rw [wrap_id (by omega) (by omega)]; simp; done) | (refine conv_eq ?_; simp; done)⟩, ⟨rfl, _, rfl, by first | exact conv_eq rfl | (refine conv_eq ?_; rw [wrap_id (by omega) (by omega)]; simp; done) | (refine conv_eq ?_; simp; done)⟩, ⟨rfl, _, rfl, by first | exact conv_eq rfl | (refine conv_eq ?_; rw [wrap_id (by omega) (by omega)]; simp; done) | (refine conv_eq ?_; simp; done)⟩, ⟨rfl, _, rfl, by first | exact conv_eq rfl | (refine conv_eq ?_; rw [wrap_id (by omega) (by omega)]; simp; done) | (refine conv_eq ?_; simp; done)⟩, ⟨rfl, _, rfl, by first | exact conv_eq rfl | (refine conv_eq ?_; rw [wrap_id (by omega) (by omega)]; simp; done) | (refine conv_eq ?_; simp; done)⟩, trivial⟩ trivial rfl
          · (try simp only []); first | omega | grind
      · have hk4 : k = 4 := by simp at h6; omega
        subst hk4
        refine WP.exit ?_
        refine WP.seq ?_
        refine WP.seq ?_
        refine WP.reg hT hE [] rfl ?_ ?_
        · first | trivial | (simp [holdsC, under, slOk, slB, capEq] <;> grind)
        refine WP.block ?_
        refine WP.loop (α := Nat) (fun k => mkSt [(0, .rp 196 (encCk p f)), (3, .rp 162 (encIns x)), (5, .v (.string (formB x.op))), (33, opA x), (34, .int k)] []) (fun k => k ≤ 4 ∧ errTo p f x k = 0) (fun k => 4 - k) ?_ ?_
        · refine ⟨0, ?_, ?_⟩
          · exact ⟨Nat.zero_le _, rfl⟩
          · refine Ent.mk hT [] trivial ⟨⟨rfl, _, rfl, by first | exact conv_eq rfl | (refine conv_eq ?_; rw [wrap_id (by omega) (by omega)]; simp; done) | (refine conv_eq ?_; simp; done)⟩, ⟨rfl, _, rfl, by first | exact conv_eq rfl | (refine conv_eq ?_; rw [wrap_id (by omega) (by omega)]; simp; done) | (refine conv_eq ?_; simp; done)⟩, ⟨rfl, _, rfl, by first | exact conv_eq rfl | (refine conv_eq ?_; rw [wrap_id (by omega) (by omega)]; simp; done) | (refine conv_eq ?_; simp; done)⟩, ⟨rfl, _, rfl, by first | exact conv_eq rfl | (refine conv_eq ?_; rw [wrap_id (by omega) (by omega)]; simp; done) | (refine conv_eq ?_; simp; done)⟩, ⟨rfl, _, rfl, by first | exact conv_eq rfl | (refine conv_eq ?_; rw [wrap_id (by omega) (by omega)]; simp; done) | (refine conv_eq ?_; simp; done)⟩, trivial⟩ trivial rfl
        · rintro k ⟨hk, he⟩
          refine WP.seq ?_
          refine WP.reg hT hE [] rfl ?_ ?_
          · first | trivial | (simp [holdsC, under, slOk, slB, capEq] <;> grind)
          refine WP.seq ?_
          refine WP.cond rfl (fun h12 => ?_) (fun h12 => ?_)
          · have hk4 : k < 4 := by simp at h12; omega
            refine WP.skip ?_
            refine WP.seq ?_
            refine WP.block ?_
            refine WP.seq ?_
            refine WP.reg hT hE [] rfl ?_ ?_
            · simp [holdsC, under]; omega
            refine WP.seq ?_
            refine WP.drw hT hE hM [CG.pure (.int (opndF p f (letF x.op k) ((opL x).getD k 0) x))] rfl ?_ ?_
            · have ho := operand_ac p f (letF x.op k) ((opL x).getD k 0) x (fun hc => par_ok he hc)
              have hk2 : k < (formB x.op).size := by omega
              refine ⟨⟨by omega, by omega⟩, ?_⟩
              exact ho
            refine WP.seq ?_
            refine WP.reg hT hE [] rfl ?_ ?_
            · first | trivial | (simp [holdsC, under, slOk, slB, capEq] <;> grind)
            refine WP.cond rfl (fun h15 => ?_) (fun h15 => ?_)
            · have hb : opndF p f (letF x.op k) ((opL x).getD k 0) x ≠ 0 := by simpa using h15
              refine WP.seq ?_
              refine WP.reg hT hE [] rfl ?_ ?_
              · first | trivial | (simp [holdsC, under, slOk, slB, capEq] <;> grind)
              refine WP.ret ?_
              change Fin _ _ _ _ _ _ _ _
              refine finI hT (by rfl) ?_
              rw [instrF, if_neg hne, hn, if_neg (by simp), err_first he hb hk4]
            · have hb : opndF p f (letF x.op k) ((opL x).getD k 0) x = 0 := by simpa using h15
              refine WP.skip ?_
              refine WP.reg hT hE [] rfl ?_ ?_
              · first | trivial | (simp [holdsC, under, slOk, slB, capEq] <;> grind)
              refine ⟨k + 1, ?_, ?_, ?_⟩
              · exact ⟨hk4, by rw [errTo, he, if_neg (by simp)]; exact hb⟩
              · refine Ent.mk hT [] trivial ⟨⟨rfl, _, rfl, by first | exact conv_eq rfl | (refine conv_eq ?_; rw [wrap_id (by omega) (by omega)]; simp; done) | (refine conv_eq ?_; simp; done)⟩, ⟨rfl, _, rfl, by first | exact conv_eq rfl | (refine conv_eq ?_; rw [wrap_id (by omega) (by omega)]; simp; done) | (refine conv_eq ?_; simp; done)⟩, ⟨rfl, _, rfl, by first | exact conv_eq rfl | (refine conv_eq ?_; rw [wrap_id (by omega) (by omega)]; simp; done) | (refine conv_eq ?_; simp; done)⟩, ⟨rfl, _, rfl, by first | exact conv_eq rfl | (refine conv_eq ?_; rw [wrap_id (by omega) (by omega)]; simp; done) | (refine conv_eq ?_; simp; done)⟩, ⟨rfl, _, rfl, by first | exact conv_eq rfl | (refine conv_eq ?_; rw [wrap_id (by omega) (by omega)]; simp; done) | (refine conv_eq ?_; simp; done)⟩, trivial⟩ trivial rfl
              · (try simp only []); first | omega | grind
          · have hk4 : k = 4 := by simp at h12; omega
            subst hk4
            refine WP.exit ?_
            refine WP.seq ?_
            refine WP.reg hT hE [] rfl ?_ ?_
            · first | trivial | (simp [holdsC, under, slOk, slB, capEq] <;> grind)
            refine WP.ret ?_
            change Fin _ _ _ _ _ _ _ _
            exact finI hT (by rfl) (by rw [instrF, if_neg hne, hn]; simp [he])
end Go.Ab


/- The reference: what is wrong with an instruction. -/
set_option autoImplicit false
set_option maxRecDepth 20000
set_option maxHeartbeats 4000000
set_option linter.unusedSimpArgs false
set_option linter.unusedVariables false
namespace Go.Ab
open Go.Proofs
theorem rinstr_ac (p : PProg) (f : PFun) (x : PIns) : AC Tryz.prog T tysN 113 [encProg p, encFun f, encIns x] [] (.int (instrF p f x)) [] := by
  refine AC_intro hT Tryz.func113 rfl rfl (Nat.le_of_ble_eq_true rfl) ?_
  refine WP.seq ?_
  refine WP.reg hT hE [] rfl ?_ ?_
  · first | trivial | (simp [holdsC, under, slOk, slB, capEq] <;> grind)
  refine WP.seq ?_
  refine WP.seq ?_
  refine WP.reg hT hE [CG.pure (.bool (locB x.op)), CG.pure (.bool (visB x.op))] rfl ?_ ?_
  · have h1 := rlocal_ac x.op
    have h2 := rvisible_ac x.op
    simp [holdsC, under, CG.pure]
    exact ⟨h1, fun _ => h2⟩
  refine WP.cond rfl (fun h1 => ?_) (fun h1 => ?_)
  · have hno : formL x.op = [] := by
      have e : (bif !locB x.op then !visB x.op else false) = true := h1
      rw [band, Bool.and_eq_true, Bool.not_eq_true', Bool.not_eq_true'] at e
      exact (form_none x.op).2 e
    refine WP.seq ?_
    refine WP.reg hT hE [] rfl ?_ ?_
    · first | trivial | (simp [holdsC, under, slOk, slB, capEq] <;> grind)
    refine WP.ret ?_
    change Fin _ _ _ _ _ _ _ _
    exact finI hT (by rfl) (by rw [instrF, if_pos hno])
  · have hne : formL x.op ≠ [] := by
      have e : (bif !locB x.op then !visB x.op else false) = false := h1
      rw [band] at e
      intro hz
      have := (form_none x.op).1 hz
      rw [this.1, this.2] at e
      cases e
    have hsz := form_size hne
    refine WP.skip ?_
    refine WP.seq ?_
    refine WP.reg hT hE [CG.pure (.v (.string (formB x.op)))] rfl ?_ ?_
    · have hf := rform_ac x.op
      simp [holdsC, under, CG.pure]
      exact hf
    refine WP.seq ?_
    refine WP.reg hT hE [] rfl ?_ ?_
    · first | trivial | (simp [holdsC, under, slOk, slB, capEq] <;> grind)
    refine WP.seq ?_
    refine WP.seq ?_
    refine WP.reg hT hE [] rfl ?_ ?_
    · first | trivial | (simp [holdsC, under, slOk, slB, capEq] <;> grind)
    refine WP.block ?_
    refine WP.loop (α := Nat) (fun k => mkSt [(3, .rp 26 (encProg p)), (4, .rp 166 (encFun f)), (5, .rp 162 (encIns x)), (7, .v (.string (formB x.op))), (8, .rp 227 (opA x)), (9, .int k)] []) (fun k => k ≤ 4 ∧ anyTo (unB x) k = false) (fun k => 4 - k) ?_ ?_
    · refine ⟨0, ?_, ?_⟩
      · exact ⟨Nat.zero_le _, rfl⟩
      · refine Ent.mk hT [(.s 3 0, 1), (.s 4 0, 1), (.s 5 0, 1), (.s 8 0, 1)] ⟨⟨_, rfl, Nat.le_refl _⟩, ⟨_, rfl, Nat.le_refl _⟩, ⟨_, rfl, Nat.le_refl _⟩, ⟨_, rfl, Nat.le_refl _⟩, trivial⟩ ⟨⟨rfl, _, rfl, conv_rpe rfl rfl (by decide) rfl rfl rfl⟩, ⟨rfl, _, rfl, conv_rpe rfl rfl (by decide) rfl rfl rfl⟩, ⟨rfl, _, rfl, conv_rpe rfl rfl (by decide) rfl rfl rfl⟩, ⟨rfl, _, rfl, by first | exact conv_eq rfl | (refine conv_eq ?_; rw [wrap_id (by omega) (by omega)]; simp; done) | (refine conv_eq ?_; simp; done)⟩, ⟨rfl, _, rfl, conv_rpe rfl rfl (by decide) rfl (opA_of x) noIds_arrI⟩, ⟨rfl, _, rfl, by first | exact conv_eq rfl | (refine conv_eq ?_; rw [wrap_id (by omega) (by omega)]; simp; done) | (refine conv_eq ?_; simp; done)⟩, trivial⟩ trivial rfl
    · rintro k ⟨hk, hn⟩
      refine WP.seq ?_
      refine WP.seq ?_
      refine WP.reg hT hE [] rfl ?_ ?_
      · first | trivial | (simp [holdsC, under, slOk, slB, capEq] <;> grind)
      refine WP.cond rfl (fun h6 => ?_) (fun h6 => ?_)
      · have hk4 : k < 4 := by simp at h6; omega
        refine WP.skip ?_
        refine WP.seq ?_
        refine WP.block ?_
        refine WP.seq ?_
        refine WP.reg hT hE [] rfl ?_ ?_
        · simp [holdsC, under, hsz]; omega
        refine WP.cond rfl (fun h8 => ?_) (fun h8 => ?_)
        · have hb : unB x k = true := by
            have e : (bif letF x.op k == 45 then (opL x).getD k 0 != 0 else false) = true := h8
            rwa [band] at e
          refine WP.seq ?_
          refine WP.reg hT hE [] rfl ?_ ?_
          · first | trivial | (simp [holdsC, under, slOk, slB, capEq] <;> grind)
          refine WP.ret ?_
          change Fin _ _ _ _ _ _ _ _
          exact finI hT (by rfl) (by rw [instrF, if_neg hne, anyTo_bad hb hk4, if_pos rfl])
        · have hb : unB x k = false := by
            have e : (bif letF x.op k == 45 then (opL x).getD k 0 != 0 else false) = false := h8
            rwa [band] at e
          refine WP.skip ?_
          refine WP.reg hT hE [] rfl ?_ ?_
          · first | trivial | (simp [holdsC, under, slOk, slB, capEq] <;> grind)
          refine ⟨k + 1, ?_, ?_, ?_⟩
          · exact ⟨hk4, by rw [anyTo, hn, hb]; rfl⟩
          · refine Ent.mk hT [] trivial ⟨⟨rfl, _, rfl, by first | exact conv_eq rfl | (refine conv_eq ?_; rw [wrap_id (by omega) (by omega)]; simp; done) | (refine conv_eq ?_; simp; done)⟩, ⟨rfl, _, rfl, by first | exact conv_eq rfl | (refine conv_eq ?_; rw [wrap_id (by omega) (by omega)]; simp; done) | (refine conv_eq ?_; simp; done)⟩, ⟨rfl, _, rfl, by first | exact conv_eq rfl | (refine conv_eq ?_; rw [wrap_id (by omega) (by omega)]; simp; done) | (refine conv_eq ?_; simp; done)⟩, ⟨rfl, _, rfl, by first | exact conv_eq rfl | (refine conv_eq ?_; rw [wrap_id (by omega) (by omega)]; simp; done) | (refine conv_eq ?_; simp; done)⟩, ⟨rfl, _, rfl, by first | exact conv_eq rfl | (refine conv_eq ?_; rw [wrap_id (by omega) (by omega)]; simp; done) | (refine conv_eq ?_; simp; done)⟩, ⟨rfl, _, rfl, by first | exact conv_eq rfl | (refine conv_eq ?_; rw [wrap_id (by omega) (by omega)]; simp; done) | (refine conv_eq ?_; simp; done)⟩, trivial⟩ trivial rfl
          · (try simp only []); first | omega | grind
      · have hk4 : k = 4 := by simp at h6; omega
        subst hk4
        refine WP.exit ?_
        refine WP.seq ?_
        refine WP.seq ?_
        refine WP.reg hT hE [] rfl ?_ ?_
        · first | trivial | (simp [holdsC, under, slOk, slB, capEq] <;> grind)
        refine WP.block ?_
        refine WP.loop (α := Nat) (fun k => mkSt [(3, .rp 26 (encProg p)), (4, .rp 166 (encFun f)), (5, .rp 162 (encIns x)), (7, .v (.string (formB x.op))), (8, .rp 227 (opA x)), (10, .int k)] []) (fun k => k ≤ 4 ∧ errTo p f x k = 0) (fun k => 4 - k) ?_ ?_
        · refine ⟨0, ?_, ?_⟩
          · exact ⟨Nat.zero_le _, rfl⟩
          · refine Ent.mk hT [] trivial ⟨⟨rfl, _, rfl, by first | exact conv_eq rfl | (refine conv_eq ?_; rw [wrap_id (by omega) (by omega)]; simp; done) | (refine conv_eq ?_; simp; done)⟩, ⟨rfl, _, rfl, by first | exact conv_eq rfl | (refine conv_eq ?_; rw [wrap_id (by omega) (by omega)]; simp; done) | (refine conv_eq ?_; simp; done)⟩, ⟨rfl, _, rfl, by first | exact conv_eq rfl | (refine conv_eq ?_; rw [wrap_id (by omega) (by omega)]; simp; done) | (refine conv_eq ?_; simp; done)⟩, ⟨rfl, _, rfl, by first | exact conv_eq rfl | (refine conv_eq ?_; rw [wrap_id (by omega) (by omega)]; simp; done) | (refine conv_eq ?_; simp; done)⟩, ⟨rfl, _, rfl, by first | exact conv_eq rfl | (refine conv_eq ?_; rw [wrap_id (by omega) (by omega)]; simp; done) | (refine conv_eq ?_; simp; done)⟩, ⟨rfl, _, rfl, by first | exact conv_eq rfl | (refine conv_eq ?_; rw [wrap_id (by omega) (by omega)]; simp; done) | (refine conv_eq ?_; simp; done)⟩, trivial⟩ trivial rfl
        · rintro k ⟨hk, he⟩
          refine WP.seq ?_
          refine WP.seq ?_
          refine WP.reg hT hE [] rfl ?_ ?_
          · first | trivial | (simp [holdsC, under, slOk, slB, capEq] <;> grind)
          refine WP.cond rfl (fun h11 => ?_) (fun h11 => ?_)
          · have hk4 : k < 4 := by simp at h11; omega
            refine WP.skip ?_
            refine WP.seq ?_
            refine WP.block ?_
            refine WP.seq ?_
            refine WP.drw hT hE hM [CG.pure (.int (opndF p f (letF x.op k) ((opL x).getD k 0) x))] rfl ?_ ?_
            · have ho := roperand_ac p f (letF x.op k) ((opL x).getD k 0) x (fun hc => par_ok he hc)
              have hk2 : k < (formB x.op).size := by omega
              refine ⟨⟨⟨by omega, by omega⟩, ⟨by omega, by omega⟩⟩, ?_⟩
              exact ho
            refine WP.seq ?_
            refine WP.reg hT hE [] rfl ?_ ?_
            · first | trivial | (simp [holdsC, under, slOk, slB, capEq] <;> grind)
            refine WP.cond rfl (fun h14 => ?_) (fun h14 => ?_)
            · have hb : opndF p f (letF x.op k) ((opL x).getD k 0) x ≠ 0 := by simpa using h14
              refine WP.seq ?_
              refine WP.reg hT hE [] rfl ?_ ?_
              · first | trivial | (simp [holdsC, under, slOk, slB, capEq] <;> grind)
              refine WP.ret ?_
              change Fin _ _ _ _ _ _ _ _
              refine finI hT (by rfl) ?_
              rw [instrF, if_neg hne, hn, if_neg (by simp), err_first he hb hk4]
            · have hb : opndF p f (letF x.op k) ((opL x).getD k 0) x = 0 := by simpa using h14
              refine WP.skip ?_
              refine WP.reg hT hE [] rfl ?_ ?_
              · first | trivial | (simp [holdsC, under, slOk, slB, capEq] <;> grind)
              refine ⟨k + 1, ?_, ?_, ?_⟩
              · exact ⟨hk4, by rw [errTo, he, if_neg (by simp)]; exact hb⟩
              · refine Ent.mk hT [] trivial ⟨⟨rfl, _, rfl, by first | exact conv_eq rfl | (refine conv_eq ?_; rw [wrap_id (by omega) (by omega)]; simp; done) | (refine conv_eq ?_; simp; done)⟩, ⟨rfl, _, rfl, by first | exact conv_eq rfl | (refine conv_eq ?_; rw [wrap_id (by omega) (by omega)]; simp; done) | (refine conv_eq ?_; simp; done)⟩, ⟨rfl, _, rfl, by first | exact conv_eq rfl | (refine conv_eq ?_; rw [wrap_id (by omega) (by omega)]; simp; done) | (refine conv_eq ?_; simp; done)⟩, ⟨rfl, _, rfl, by first | exact conv_eq rfl | (refine conv_eq ?_; rw [wrap_id (by omega) (by omega)]; simp; done) | (refine conv_eq ?_; simp; done)⟩, ⟨rfl, _, rfl, by first | exact conv_eq rfl | (refine conv_eq ?_; rw [wrap_id (by omega) (by omega)]; simp; done) | (refine conv_eq ?_; simp; done)⟩, ⟨rfl, _, rfl, by first | exact conv_eq rfl | (refine conv_eq ?_; rw [wrap_id (by omega) (by omega)]; simp; done) | (refine conv_eq ?_; simp; done)⟩, trivial⟩ trivial rfl
              · (try simp only []); first | omega | grind
          · have hk4 : k = 4 := by simp at h11; omega
            subst hk4
            refine WP.exit ?_
            refine WP.seq ?_
            refine WP.reg hT hE [] rfl ?_ ?_
            · first | trivial | (simp [holdsC, under, slOk, slB, capEq] <;> grind)
            refine WP.ret ?_
            change Fin _ _ _ _ _ _ _ _
            exact finI hT (by rfl) (by rw [instrF, if_neg hne, hn]; simp [he])
end Go.Ab


/- Events: how many places; touches compared. -/
set_option autoImplicit false
set_option maxRecDepth 20000
set_option linter.unusedSimpArgs false
set_option linter.unusedVariables false
namespace Go.Ab
open Go.Proofs
def mostF (n : Int) : Int := if n = 1 then 8 else if n = 2 ∨ n = 3 then 4 else if n = 4 ∨ n = 6 then 1 else if n = 5 then 6 else 0
theorem most_ac (n : Int) : AC Tryz.prog T tysN 164 [.int n] [] (.int (mostF n)) [] := by
  refine AC_intro hT Tryz.func164 rfl rfl (Nat.le_of_ble_eq_true rfl) ?_
  refine WP.seq ?_
  refine WP.reg hT hE [] rfl ?_ ?_
  · first | trivial | (simp [holdsC, under, slOk, slB, capEq] <;> grind)
  refine WP.seq ?_
  refine WP.seq ?_
  refine WP.reg hT hE [] rfl ?_ ?_
  · first | trivial | (simp [holdsC, under, slOk, slB, capEq] <;> grind)
  refine WP.block ?_
  refine WP.seq ?_
  refine WP.reg hT hE [] rfl ?_ ?_
  · first | trivial | (simp [holdsC, under, slOk, slB, capEq] <;> grind)
  refine WP.cond rfl (fun h2 => ?_) (fun h2 => ?_)
  · refine WP.seq ?_
    refine WP.reg hT hE [] rfl ?_ ?_
    · first | trivial | (simp [holdsC, under, slOk, slB, capEq] <;> grind)
    refine WP.ret ?_
    change Fin _ _ _ _ _ _ _ _
    refine finI hT (by rfl) ?_
    simp_all [mostF]
  · refine WP.seq ?_
    refine WP.reg hT hE [] rfl ?_ ?_
    · first | trivial | (simp [holdsC, under, slOk, slB, capEq] <;> grind)
    refine WP.cond rfl (fun h4 => ?_) (fun h4 => ?_)
    · refine WP.seq ?_
      refine WP.reg hT hE [] rfl ?_ ?_
      · first | trivial | (simp [holdsC, under, slOk, slB, capEq] <;> grind)
      refine WP.ret ?_
      change Fin _ _ _ _ _ _ _ _
      refine finI hT (by rfl) ?_
      simp_all [mostF]
    · refine WP.seq ?_
      refine WP.reg hT hE [] rfl ?_ ?_
      · first | trivial | (simp [holdsC, under, slOk, slB, capEq] <;> grind)
      refine WP.cond rfl (fun h6 => ?_) (fun h6 => ?_)
      · refine WP.seq ?_
        refine WP.reg hT hE [] rfl ?_ ?_
        · first | trivial | (simp [holdsC, under, slOk, slB, capEq] <;> grind)
        refine WP.ret ?_
        change Fin _ _ _ _ _ _ _ _
        refine finI hT (by rfl) ?_
        simp_all [mostF]
      · refine WP.seq ?_
        refine WP.seq ?_
        refine WP.reg hT hE [] rfl ?_ ?_
        · first | trivial | (simp [holdsC, under, slOk, slB, capEq] <;> grind)
        refine WP.cond rfl (fun h8 => ?_) (fun h8 => ?_)
        · refine WP.skip ?_
          refine WP.cond rfl (fun h8 => ?_) (fun h8 => ?_)
          · refine WP.seq ?_
            refine WP.reg hT hE [] rfl ?_ ?_
            · first | trivial | (simp [holdsC, under, slOk, slB, capEq] <;> grind)
            refine WP.ret ?_
            change Fin _ _ _ _ _ _ _ _
            refine finI hT (by rfl) ?_
            simp_all [mostF]
          · refine WP.seq ?_
            refine WP.reg hT hE [] rfl ?_ ?_
            · first | trivial | (simp [holdsC, under, slOk, slB, capEq] <;> grind)
            refine WP.cond rfl (fun h11 => ?_) (fun h11 => ?_)
            · refine WP.seq ?_
              refine WP.reg hT hE [] rfl ?_ ?_
              · first | trivial | (simp [holdsC, under, slOk, slB, capEq] <;> grind)
              refine WP.ret ?_
              change Fin _ _ _ _ _ _ _ _
              refine finI hT (by rfl) ?_
              simp_all [mostF]
            · refine WP.skip ?_
              refine WP.seq ?_
              refine WP.reg hT hE [] rfl ?_ ?_
              · first | trivial | (simp [holdsC, under, slOk, slB, capEq] <;> grind)
              refine WP.ret ?_
              change Fin _ _ _ _ _ _ _ _
              refine finI hT (by rfl) ?_
              simp_all [mostF]
        · refine WP.reg hT hE [] rfl ?_ ?_
          · first | trivial | (simp [holdsC, under, slOk, slB, capEq] <;> grind)
          refine WP.cond rfl (fun h9 => ?_) (fun h9 => ?_)
          · refine WP.seq ?_
            refine WP.reg hT hE [] rfl ?_ ?_
            · first | trivial | (simp [holdsC, under, slOk, slB, capEq] <;> grind)
            refine WP.ret ?_
            change Fin _ _ _ _ _ _ _ _
            refine finI hT (by rfl) ?_
            simp_all [mostF]
          · refine WP.seq ?_
            refine WP.reg hT hE [] rfl ?_ ?_
            · first | trivial | (simp [holdsC, under, slOk, slB, capEq] <;> grind)
            refine WP.cond rfl (fun h11 => ?_) (fun h11 => ?_)
            · refine WP.seq ?_
              refine WP.reg hT hE [] rfl ?_ ?_
              · first | trivial | (simp [holdsC, under, slOk, slB, capEq] <;> grind)
              refine WP.ret ?_
              change Fin _ _ _ _ _ _ _ _
              refine finI hT (by rfl) ?_
              simp_all [mostF]
            · refine WP.skip ?_
              refine WP.seq ?_
              refine WP.reg hT hE [] rfl ?_ ?_
              · first | trivial | (simp [holdsC, under, slOk, slB, capEq] <;> grind)
              refine WP.ret ?_
              change Fin _ _ _ _ _ _ _ _
              refine finI hT (by rfl) ?_
              simp_all [mostF]
theorem few_ac (n : Int) : AC Tryz.prog T tysN 99 [.int n] [] (.int (mostF n)) [] := by
  refine AC_intro hT Tryz.func99 rfl rfl (Nat.le_of_ble_eq_true rfl) ?_
  refine WP.seq ?_
  refine WP.reg hT hE [] rfl ?_ ?_
  · first | trivial | (simp [holdsC, under, slOk, slB, capEq] <;> grind)
  refine WP.seq ?_
  refine WP.seq ?_
  refine WP.reg hT hE [] rfl ?_ ?_
  · first | trivial | (simp [holdsC, under, slOk, slB, capEq] <;> grind)
  refine WP.block ?_
  refine WP.seq ?_
  refine WP.reg hT hE [] rfl ?_ ?_
  · first | trivial | (simp [holdsC, under, slOk, slB, capEq] <;> grind)
  refine WP.cond rfl (fun h2 => ?_) (fun h2 => ?_)
  · refine WP.seq ?_
    refine WP.reg hT hE [] rfl ?_ ?_
    · first | trivial | (simp [holdsC, under, slOk, slB, capEq] <;> grind)
    refine WP.ret ?_
    change Fin _ _ _ _ _ _ _ _
    refine finI hT (by rfl) ?_
    simp_all [mostF]
  · refine WP.seq ?_
    refine WP.seq ?_
    refine WP.reg hT hE [] rfl ?_ ?_
    · first | trivial | (simp [holdsC, under, slOk, slB, capEq] <;> grind)
    refine WP.cond rfl (fun h4 => ?_) (fun h4 => ?_)
    · refine WP.skip ?_
      refine WP.cond rfl (fun h4 => ?_) (fun h4 => ?_)
      · refine WP.seq ?_
        refine WP.reg hT hE [] rfl ?_ ?_
        · first | trivial | (simp [holdsC, under, slOk, slB, capEq] <;> grind)
        refine WP.ret ?_
        change Fin _ _ _ _ _ _ _ _
        refine finI hT (by rfl) ?_
        simp_all [mostF]
      · refine WP.seq ?_
        refine WP.seq ?_
        refine WP.reg hT hE [] rfl ?_ ?_
        · first | trivial | (simp [holdsC, under, slOk, slB, capEq] <;> grind)
        refine WP.cond rfl (fun h7 => ?_) (fun h7 => ?_)
        · refine WP.skip ?_
          refine WP.cond rfl (fun h7 => ?_) (fun h7 => ?_)
          · refine WP.seq ?_
            refine WP.reg hT hE [] rfl ?_ ?_
            · first | trivial | (simp [holdsC, under, slOk, slB, capEq] <;> grind)
            refine WP.ret ?_
            change Fin _ _ _ _ _ _ _ _
            refine finI hT (by rfl) ?_
            simp_all [mostF]
          · refine WP.seq ?_
            refine WP.reg hT hE [] rfl ?_ ?_
            · first | trivial | (simp [holdsC, under, slOk, slB, capEq] <;> grind)
            refine WP.cond rfl (fun h10 => ?_) (fun h10 => ?_)
            · refine WP.seq ?_
              refine WP.reg hT hE [] rfl ?_ ?_
              · first | trivial | (simp [holdsC, under, slOk, slB, capEq] <;> grind)
              refine WP.ret ?_
              change Fin _ _ _ _ _ _ _ _
              refine finI hT (by rfl) ?_
              simp_all [mostF]
            · refine WP.skip ?_
              refine WP.seq ?_
              refine WP.reg hT hE [] rfl ?_ ?_
              · first | trivial | (simp [holdsC, under, slOk, slB, capEq] <;> grind)
              refine WP.ret ?_
              change Fin _ _ _ _ _ _ _ _
              refine finI hT (by rfl) ?_
              simp_all [mostF]
        · refine WP.reg hT hE [] rfl ?_ ?_
          · first | trivial | (simp [holdsC, under, slOk, slB, capEq] <;> grind)
          refine WP.cond rfl (fun h8 => ?_) (fun h8 => ?_)
          · refine WP.seq ?_
            refine WP.reg hT hE [] rfl ?_ ?_
            · first | trivial | (simp [holdsC, under, slOk, slB, capEq] <;> grind)
            refine WP.ret ?_
            change Fin _ _ _ _ _ _ _ _
            refine finI hT (by rfl) ?_
            simp_all [mostF]
          · refine WP.seq ?_
            refine WP.reg hT hE [] rfl ?_ ?_
            · first | trivial | (simp [holdsC, under, slOk, slB, capEq] <;> grind)
            refine WP.cond rfl (fun h10 => ?_) (fun h10 => ?_)
            · refine WP.seq ?_
              refine WP.reg hT hE [] rfl ?_ ?_
              · first | trivial | (simp [holdsC, under, slOk, slB, capEq] <;> grind)
              refine WP.ret ?_
              change Fin _ _ _ _ _ _ _ _
              refine finI hT (by rfl) ?_
              simp_all [mostF]
            · refine WP.skip ?_
              refine WP.seq ?_
              refine WP.reg hT hE [] rfl ?_ ?_
              · first | trivial | (simp [holdsC, under, slOk, slB, capEq] <;> grind)
              refine WP.ret ?_
              change Fin _ _ _ _ _ _ _ _
              refine finI hT (by rfl) ?_
              simp_all [mostF]
    · refine WP.reg hT hE [] rfl ?_ ?_
      · first | trivial | (simp [holdsC, under, slOk, slB, capEq] <;> grind)
      refine WP.cond rfl (fun h5 => ?_) (fun h5 => ?_)
      · refine WP.seq ?_
        refine WP.reg hT hE [] rfl ?_ ?_
        · first | trivial | (simp [holdsC, under, slOk, slB, capEq] <;> grind)
        refine WP.ret ?_
        change Fin _ _ _ _ _ _ _ _
        refine finI hT (by rfl) ?_
        simp_all [mostF]
      · refine WP.seq ?_
        refine WP.seq ?_
        refine WP.reg hT hE [] rfl ?_ ?_
        · first | trivial | (simp [holdsC, under, slOk, slB, capEq] <;> grind)
        refine WP.cond rfl (fun h7 => ?_) (fun h7 => ?_)
        · refine WP.skip ?_
          refine WP.cond rfl (fun h7 => ?_) (fun h7 => ?_)
          · refine WP.seq ?_
            refine WP.reg hT hE [] rfl ?_ ?_
            · first | trivial | (simp [holdsC, under, slOk, slB, capEq] <;> grind)
            refine WP.ret ?_
            change Fin _ _ _ _ _ _ _ _
            refine finI hT (by rfl) ?_
            simp_all [mostF]
          · refine WP.seq ?_
            refine WP.reg hT hE [] rfl ?_ ?_
            · first | trivial | (simp [holdsC, under, slOk, slB, capEq] <;> grind)
            refine WP.cond rfl (fun h10 => ?_) (fun h10 => ?_)
            · refine WP.seq ?_
              refine WP.reg hT hE [] rfl ?_ ?_
              · first | trivial | (simp [holdsC, under, slOk, slB, capEq] <;> grind)
              refine WP.ret ?_
              change Fin _ _ _ _ _ _ _ _
              refine finI hT (by rfl) ?_
              simp_all [mostF]
            · refine WP.skip ?_
              refine WP.seq ?_
              refine WP.reg hT hE [] rfl ?_ ?_
              · first | trivial | (simp [holdsC, under, slOk, slB, capEq] <;> grind)
              refine WP.ret ?_
              change Fin _ _ _ _ _ _ _ _
              refine finI hT (by rfl) ?_
              simp_all [mostF]
        · refine WP.reg hT hE [] rfl ?_ ?_
          · first | trivial | (simp [holdsC, under, slOk, slB, capEq] <;> grind)
          refine WP.cond rfl (fun h8 => ?_) (fun h8 => ?_)
          · refine WP.seq ?_
            refine WP.reg hT hE [] rfl ?_ ?_
            · first | trivial | (simp [holdsC, under, slOk, slB, capEq] <;> grind)
            refine WP.ret ?_
            change Fin _ _ _ _ _ _ _ _
            refine finI hT (by rfl) ?_
            simp_all [mostF]
          · refine WP.seq ?_
            refine WP.reg hT hE [] rfl ?_ ?_
            · first | trivial | (simp [holdsC, under, slOk, slB, capEq] <;> grind)
            refine WP.cond rfl (fun h10 => ?_) (fun h10 => ?_)
            · refine WP.seq ?_
              refine WP.reg hT hE [] rfl ?_ ?_
              · first | trivial | (simp [holdsC, under, slOk, slB, capEq] <;> grind)
              refine WP.ret ?_
              change Fin _ _ _ _ _ _ _ _
              refine finI hT (by rfl) ?_
              simp_all [mostF]
            · refine WP.skip ?_
              refine WP.seq ?_
              refine WP.reg hT hE [] rfl ?_ ?_
              · first | trivial | (simp [holdsC, under, slOk, slB, capEq] <;> grind)
              refine WP.ret ?_
              change Fin _ _ _ _ _ _ _ _
              refine finI hT (by rfl) ?_
              simp_all [mostF]
/-- A touch. -/
structure Tch where
  kind : Int
  num : Int
  wr : Bool
  deriving DecidableEq
def encTch (x : Tch) : AV := stru 70 [.int x.kind, .int x.num, .bool x.wr]
def cmpF (a b : Tch) : Int := if a.kind < b.kind ∨ a.kind = b.kind ∧ a.num < b.num then -1 else if a.kind = b.kind ∧ a.num = b.num then 0 else 1
theorem cmp_ac (a b : Tch) : AC Tryz.prog T tysN 165 [encTch a, encTch b] [] (.int (cmpF a b)) [] := by
  refine AC_intro hT Tryz.func165 rfl rfl (Nat.le_of_ble_eq_true rfl) ?_
  refine WP.seq ?_
  refine WP.reg hT hE [] rfl ?_ ?_
  · first | trivial | (simp [holdsC, under, slOk, slB, capEq] <;> grind)
  refine WP.seq ?_
  refine WP.block ?_
  refine WP.seq ?_
  refine WP.reg hT hE [] rfl ?_ ?_
  · first | trivial | (simp [holdsC, under, slOk, slB, capEq] <;> grind)
  refine WP.cond rfl (fun h1 => ?_) (fun h1 => ?_)
  · refine WP.seq ?_
    refine WP.reg hT hE [] rfl ?_ ?_
    · first | trivial | (simp [holdsC, under, slOk, slB, capEq] <;> grind)
    refine WP.ret ?_
    change Fin _ _ _ _ _ _ _ _
    refine finI hT (by rfl) ?_
    simp_all [cmpF]
    all_goals (try grind)
  · refine WP.seq ?_
    refine WP.reg hT hE [] rfl ?_ ?_
    · first | trivial | (simp [holdsC, under, slOk, slB, capEq] <;> grind)
    refine WP.cond rfl (fun h3 => ?_) (fun h3 => ?_)
    · refine WP.seq ?_
      refine WP.reg hT hE [] rfl ?_ ?_
      · first | trivial | (simp [holdsC, under, slOk, slB, capEq] <;> grind)
      refine WP.ret ?_
      change Fin _ _ _ _ _ _ _ _
      refine finI hT (by rfl) ?_
      simp_all [cmpF]
      all_goals (try grind)
    · refine WP.skip ?_
      refine WP.seq ?_
      refine WP.reg hT hE [] rfl ?_ ?_
      · first | trivial | (simp [holdsC, under, slOk, slB, capEq] <;> grind)
      refine WP.ret ?_
      change Fin _ _ _ _ _ _ _ _
      refine finI hT (by rfl) ?_
      simp_all [cmpF]
      all_goals (try grind)
def tch0 : Tch := ⟨0, 0, false⟩
/-- An event. -/
structure Evt where
  go : Int
  a : Int
  b : Int
  op : Int
  c : Int
  val : Int
  tag : Int
  ts : List Tch
  n : Int
def encTs (l : List Tch) : AV := .agg 71 6 (fun i => encTch (l.getD i tch0))
def encE (x : Evt) : AV := stru 73 [.int x.go, .int x.a, .int x.b, .int x.op, .int x.c, .int x.val, .int x.tag, encTs x.ts, .int x.n]
theorem noIds_E (x : Evt) : noIds (encE x) = true := noIds_agg (fun i hi => by
  match i, hi with
  | 0, _ | 1, _ | 2, _ | 3, _ | 4, _ | 5, _ | 6, _ | 8, _ => rfl
  | 7, _ => exact noIds_agg (fun j _ => noIds_agg (fun q hq => by match q, hq with | 0, _ | 1, _ | 2, _ => rfl)))
def tAt (x : Evt) (i : Nat) : Tch := x.ts.getD i tch0
def rowE (x : Evt) (i : Nat) : Bool := if (i : Int) ≥ x.n then decide (tAt x i = tch0) else (decide (0 ≤ (tAt x i).num) && decide ((tAt x i).num < mostF (tAt x i).kind) && (i == 0 || decide (cmpF (tAt x (i - 1)) (tAt x i) < 0)))
def ownE (x : Evt) : Nat → Bool
  | 0 => false
  | i + 1 => ownE x i || (decide ((i : Int) < x.n) && decide (tAt x i = ⟨5, x.go, true⟩))
def rightE (x : Evt) : Bool := decide (0 ≤ x.go ∧ x.go < 6 ∧ 1 ≤ x.n ∧ x.n ≤ 6) && (allTo (rowE x) 6 && ownE x 6)
theorem tch_eq {t : Tch} (h : (!(t.kind == 0 && (t.num == 0 && (t.wr == false && true)))) = false) : t = tch0 := by
  obtain ⟨a, b, c⟩ := t
  simp at h
  simp [tch0, h]
theorem tch5 (t : Tch) (g : Int) : decide (t = ⟨5, g, true⟩) = (t.kind == 5 && (t.num == g && (t.wr == true && true))) := by
  obtain ⟨a, b, c⟩ := t
  rw [Bool.eq_iff_iff]
  simp
theorem right_no {x : Evt} {i : Nat} (hi : i < 6) (h : rowE x i = false) : rightE x = false := by
  have : allTo (rowE x) 6 = false := by
    cases hz : allTo (rowE x) 6 with
    | false => rfl
    | true => have := allTo_iff.1 hz i hi; rw [h] at this; cases this
  simp [rightE, this]
theorem row_eq {x : Evt} {i : Nat} (h : (i : Int) < x.n) : rowE x i = !(decide ((tAt x i).num < 0) || decide ((tAt x i).num ≥ mostF (tAt x i).kind) || (decide ((i : Int) > 0) && decide (cmpF (tAt x (i - 1)) (tAt x i) ≥ 0))) := by
  rw [rowE, if_neg (by omega)]
  rw [Bool.eq_iff_iff]
  simp only [Bool.and_eq_true, decide_eq_true_eq, Bool.or_eq_true, beq_iff_eq, Bool.not_eq_true', Bool.or_eq_false_iff, decide_eq_false_iff_not, Bool.and_eq_false_iff]
  omega
theorem dright_ac (x : Evt) : AC Tryz.prog T tysN 116 [encE x] [] (.bool (rightE x)) [] := by
  refine AC_intro hT Tryz.func116 rfl rfl (Nat.le_of_ble_eq_true rfl) ?_
  refine WP.seq ?_
  refine WP.reg hT hE [] rfl ?_ ?_
  · first | trivial | (simp [holdsC, under, slOk, slB, capEq] <;> grind)
  refine WP.seq ?_
  refine WP.seq ?_
  refine WP.reg hT hE [] rfl ?_ ?_
  · first | trivial | (simp [holdsC, under, slOk, slB, capEq] <;> grind)
  refine WP.cond rfl (fun h1 => ?_) (fun h1 => ?_)
  · simp only [bor] at h1
    refine WP.seq ?_
    refine WP.reg hT hE [] rfl ?_ ?_
    · first | trivial | (simp [holdsC, under, slOk, slB, capEq] <;> grind)
    refine WP.ret ?_
    change Fin _ _ _ _ _ _ _ _
    refine fin1 hT (by rfl) ?_
    have : ¬ (0 ≤ x.go ∧ x.go < 6 ∧ 1 ≤ x.n ∧ x.n ≤ 6) := by simp at h1; omega
    simp [rightE, this]
  · simp only [bor] at h1
    have hh : 0 ≤ x.go ∧ x.go < 6 ∧ 1 ≤ x.n ∧ x.n ≤ 6 := by simp at h1; omega
    refine WP.skip ?_
    refine WP.seq ?_
    refine WP.reg hT hE [] rfl ?_ ?_
    · first | trivial | (simp [holdsC, under, slOk, slB, capEq] <;> grind)
    refine WP.seq ?_
    refine WP.seq ?_
    refine WP.reg hT hE [] rfl ?_ ?_
    · first | trivial | (simp [holdsC, under, slOk, slB, capEq] <;> grind)
    refine WP.block ?_
    refine WP.loop (α := Nat) (fun i => mkSt [(1, .rp 73 (encE x)), (3, .bool (ownE x i)), (25, encTs x.ts), (26, .int i)] []) (fun i => i ≤ 6 ∧ allTo (rowE x) i = true) (fun i => 6 - i) ?_ ?_
    · refine ⟨0, ?_, ?_⟩
      · exact ⟨Nat.zero_le _, rfl⟩
      · refine Ent.mk hT [(.s 1 0, 1)] ⟨⟨_, rfl, Nat.le_refl _⟩, trivial⟩ ⟨⟨rfl, _, rfl, conv_rpe rfl rfl (Nat.lt_succ_self 0) rfl rfl (noIds_E _)⟩, ⟨rfl, _, rfl, by first | exact conv_eq rfl | (refine conv_eq ?_; rw [wrap_id (by omega) (by omega)]; simp; done) | (refine conv_eq ?_; simp; done)⟩, ⟨rfl, _, rfl, by first | exact conv_eq rfl | (refine conv_eq ?_; rw [wrap_id (by omega) (by omega)]; simp; done) | (refine conv_eq ?_; simp; done)⟩, ⟨rfl, _, rfl, by first | exact conv_eq rfl | (refine conv_eq ?_; rw [wrap_id (by omega) (by omega)]; simp; done) | (refine conv_eq ?_; simp; done)⟩, trivial⟩ trivial rfl
    · rintro i ⟨hi, hal⟩
      refine WP.seq ?_
      refine WP.reg hT hE [] rfl ?_ ?_
      · first | trivial | (simp [holdsC, under, slOk, slB, capEq] <;> grind)
      refine WP.seq ?_
      refine WP.cond rfl (fun h5 => ?_) (fun h5 => ?_)
      · have hil : i < 6 := by simp at h5; omega
        refine WP.skip ?_
        refine WP.seq ?_
        refine WP.block ?_
        refine WP.seq ?_
        refine WP.reg hT hE [] rfl ?_ ?_
        · simp [holdsC, under]
          omega
        refine WP.seq ?_
        refine WP.seq ?_
        refine WP.reg hT hE [] rfl ?_ ?_
        · first | trivial | (simp [holdsC, under, slOk, slB, capEq] <;> grind)
        refine WP.cond rfl (fun h7 => ?_) (fun h7 => ?_)
        · have hge : (i : Int) ≥ x.n := by simpa using h7
          have hlt : ¬ (i : Int) < x.n := by omega
          refine WP.seq ?_
          refine WP.seq ?_
          refine WP.reg hT hE [] rfl ?_ ?_
          · first | trivial | (simp [holdsC, under, slOk, slB, capEq] <;> grind)
          refine WP.cond rfl (fun h8 => ?_) (fun h8 => ?_)
          · have hne : tAt x i ≠ tch0 := fun e => by
              have e' : x.ts.getD (i : Int).toNat tch0 = tch0 := e
              rw [e'] at h8
              simp [tch0] at h8
            refine WP.seq ?_
            refine WP.reg hT hE [] rfl ?_ ?_
            · first | trivial | (simp [holdsC, under, slOk, slB, capEq] <;> grind)
            refine WP.ret ?_
            change Fin _ _ _ _ _ _ _ _
            exact fin1 hT (by rfl) (right_no hil (by simp [rowE, hge, hne])).symm
          · have heq : tAt x i = tch0 := tch_eq h8
            refine WP.skip ?_
            refine WP.exit ?_
            refine WP.reg hT hE [] rfl ?_ ?_
            · first | trivial | (simp [holdsC, under, slOk, slB, capEq] <;> grind)
            refine ⟨i + 1, ?_, ?_, ?_⟩
            · exact ⟨hil, by simp [allTo, hal, rowE, hge, heq]⟩
            · refine Ent.mk hT [] trivial ⟨⟨rfl, _, rfl, by first | exact conv_eq rfl | (refine conv_eq ?_; rw [wrap_id (by omega) (by omega)]; simp; done) | (refine conv_eq ?_; simp; done)⟩, ⟨rfl, _, rfl, conv_eq (by simp [ownE, hlt])⟩, ⟨rfl, _, rfl, by first | exact conv_eq rfl | (refine conv_eq ?_; rw [wrap_id (by omega) (by omega)]; simp; done) | (refine conv_eq ?_; simp; done)⟩, ⟨rfl, _, rfl, by first | exact conv_eq rfl | (refine conv_eq ?_; rw [wrap_id (by omega) (by omega)]; simp; done) | (refine conv_eq ?_; simp; done)⟩, trivial⟩ trivial rfl
            · (try simp only []); first | omega | grind
        · have hlt : (i : Int) < x.n := by simp at h7; omega
          have hrow := row_eq hlt
          have hm := most_ac (tAt x i).kind
          have hc := cmp_ac (tAt x (i - 1)) (tAt x i)
          refine WP.skip ?_
          refine WP.seq ?_
          refine WP.seq ?_
          refine WP.drw hT hE hM [CG.pure (.int (mostF (tAt x i).kind)), CG.pure (.int (cmpF (tAt x (i - 1)) (tAt x i)))] rfl ?_ ?_
          · rcases Nat.eq_zero_or_pos i with h0 | h0
            · subst h0
              simp [holdsC, under, CG.pure]
              exact fun _ => hm
            · have ew : IntKind.i64.wrap ((i : Int) - 1) = ((i - 1 : Nat) : Int) := by rw [wrap_id (by omega) (by omega)]; omega
              simp [holdsC, under, CG.pure, ew]
              exact ⟨⟨⟨fun _ => hm, fun _ _ _ => by omega⟩, fun _ _ _ => hc⟩, fun a b c => ⟨⟨a, b⟩, c⟩⟩
          refine WP.cond rfl (fun h10 => ?_) (fun h10 => ?_)
          · simp only [bor, band] at h10
            refine WP.seq ?_
            refine WP.reg hT hE [] rfl ?_ ?_
            · first | trivial | (simp [holdsC, under, slOk, slB, capEq] <;> grind)
            refine WP.ret ?_
            change Fin _ _ _ _ _ _ _ _
            exact fin1 hT (by rfl) (right_no hil (by rw [hrow]; exact congrArg (! ·) h10)).symm
          · simp only [bor, band] at h10
            refine WP.skip ?_
            refine WP.reg hT hE [] rfl ?_ ?_
            · first | trivial | (simp [holdsC, under, slOk, slB, capEq] <;> grind)
            refine WP.reg hT hE [] rfl ?_ ?_
            · first | trivial | (simp [holdsC, under, slOk, slB, capEq] <;> grind)
            refine ⟨i + 1, ?_, ?_, ?_⟩
            · exact ⟨hil, by simp only [allTo, hal, Bool.true_and]; rw [hrow]; exact congrArg (! ·) h10⟩
            · refine Ent.mk hT [] trivial ⟨⟨rfl, _, rfl, by first | exact conv_eq rfl | (refine conv_eq ?_; rw [wrap_id (by omega) (by omega)]; simp; done) | (refine conv_eq ?_; simp; done)⟩, ⟨rfl, _, rfl, ?_⟩, ⟨rfl, _, rfl, by first | exact conv_eq rfl | (refine conv_eq ?_; rw [wrap_id (by omega) (by omega)]; simp; done) | (refine conv_eq ?_; simp; done)⟩, ⟨rfl, _, rfl, by first | exact conv_eq rfl | (refine conv_eq ?_; rw [wrap_id (by omega) (by omega)]; simp; done) | (refine conv_eq ?_; simp; done)⟩, trivial⟩ trivial rfl
              · refine conv_eq ?_
                rw [bor]
                simp only [ownE, decide_eq_true hlt, Bool.true_and, tch5]
                rfl
            · (try simp only []); first | omega | grind
      · have hil : i = 6 := by simp at h5; omega
        subst hil
        refine WP.exit ?_
        refine WP.seq ?_
        refine WP.reg hT hE [] rfl ?_ ?_
        · first | trivial | (simp [holdsC, under, slOk, slB, capEq] <;> grind)
        refine WP.ret ?_
        change Fin _ _ _ _ _ _ _ _
        refine fin1 hT (by rfl) ?_
        simp [rightE, hh, hal]
theorem cmp_ge (p c : Tch) : decide (cmpF p c ≥ 0) = (decide (p.kind > c.kind) || (p.kind == c.kind && decide (p.num ≥ c.num))) := by
  unfold cmpF
  rw [Bool.eq_iff_iff]
  simp only [Bool.or_eq_true, Bool.and_eq_true, decide_eq_true_eq, beq_iff_eq]
  split
  · omega
  · split <;> omega
theorem eright_ac (x : Evt) : AC Tryz.prog T tysN 53 [encE x] [] (.bool (rightE x)) [] := by
  refine AC_intro hT Tryz.func53 rfl rfl (Nat.le_of_ble_eq_true rfl) ?_
  refine WP.seq ?_
  refine WP.reg hT hE [] rfl ?_ ?_
  · first | trivial | (simp [holdsC, under, slOk, slB, capEq] <;> grind)
  refine WP.seq ?_
  refine WP.seq ?_
  refine WP.reg hT hE [] rfl ?_ ?_
  · first | trivial | (simp [holdsC, under, slOk, slB, capEq] <;> grind)
  refine WP.cond rfl (fun h1 => ?_) (fun h1 => ?_)
  · simp only [bor] at h1
    refine WP.seq ?_
    refine WP.reg hT hE [] rfl ?_ ?_
    · first | trivial | (simp [holdsC, under, slOk, slB, capEq] <;> grind)
    refine WP.ret ?_
    change Fin _ _ _ _ _ _ _ _
    refine fin1 hT (by rfl) ?_
    have : ¬ (0 ≤ x.go ∧ x.go < 6 ∧ 1 ≤ x.n ∧ x.n ≤ 6) := by simp at h1; omega
    simp [rightE, this]
  · simp only [bor] at h1
    have hh : 0 ≤ x.go ∧ x.go < 6 ∧ 1 ≤ x.n ∧ x.n ≤ 6 := by simp at h1; omega
    refine WP.skip ?_
    refine WP.seq ?_
    refine WP.reg hT hE [] rfl ?_ ?_
    · first | trivial | (simp [holdsC, under, slOk, slB, capEq] <;> grind)
    refine WP.seq ?_
    refine WP.seq ?_
    refine WP.reg hT hE [] rfl ?_ ?_
    · first | trivial | (simp [holdsC, under, slOk, slB, capEq] <;> grind)
    refine WP.block ?_
    refine WP.loop (α := Nat) (fun i => mkSt [(1, .rp 73 (encE x)), (3, .bool (ownE x i)), (4, .int i)] []) (fun i => i ≤ 6 ∧ allTo (rowE x) i = true) (fun i => 6 - i) ?_ ?_
    · refine ⟨0, ?_, ?_⟩
      · exact ⟨Nat.zero_le _, rfl⟩
      · refine Ent.mk hT [(.s 1 0, 1)] ⟨⟨_, rfl, Nat.le_refl _⟩, trivial⟩ ⟨⟨rfl, _, rfl, conv_rpe rfl rfl (Nat.lt_succ_self 0) rfl rfl (noIds_E _)⟩, ⟨rfl, _, rfl, by first | exact conv_eq rfl | (refine conv_eq ?_; rw [wrap_id (by omega) (by omega)]; simp; done) | (refine conv_eq ?_; simp; done)⟩, ⟨rfl, _, rfl, by first | exact conv_eq rfl | (refine conv_eq ?_; rw [wrap_id (by omega) (by omega)]; simp; done) | (refine conv_eq ?_; simp; done)⟩, trivial⟩ trivial rfl
    · rintro i ⟨hi, hal⟩
      refine WP.seq ?_
      refine WP.seq ?_
      refine WP.reg hT hE [] rfl ?_ ?_
      · first | trivial | (simp [holdsC, under, slOk, slB, capEq] <;> grind)
      refine WP.cond rfl (fun h5 => ?_) (fun h5 => ?_)
      · have hil : i < 6 := by simp at h5; omega
        refine WP.skip ?_
        refine WP.seq ?_
        refine WP.block ?_
        refine WP.seq ?_
        refine WP.reg hT hE [] rfl ?_ ?_
        · simp [holdsC, under]
          omega
        refine WP.seq ?_
        refine WP.seq ?_
        refine WP.reg hT hE [] rfl ?_ ?_
        · first | trivial | (simp [holdsC, under, slOk, slB, capEq] <;> grind)
        refine WP.cond rfl (fun h8 => ?_) (fun h8 => ?_)
        · have hge : (i : Int) ≥ x.n := by simpa using h8
          have hlt : ¬ (i : Int) < x.n := by omega
          refine WP.seq ?_
          refine WP.seq ?_
          refine WP.reg hT hE [] rfl ?_ ?_
          · first | trivial | (simp [holdsC, under, slOk, slB, capEq] <;> grind)
          refine WP.cond rfl (fun h9 => ?_) (fun h9 => ?_)
          · have hne : tAt x i ≠ tch0 := fun e => by
              have e' : x.ts.getD (i : Int).toNat tch0 = tch0 := e
              rw [e'] at h9
              simp [tch0] at h9
            refine WP.seq ?_
            refine WP.reg hT hE [] rfl ?_ ?_
            · first | trivial | (simp [holdsC, under, slOk, slB, capEq] <;> grind)
            refine WP.ret ?_
            change Fin _ _ _ _ _ _ _ _
            exact fin1 hT (by rfl) (right_no hil (by simp [rowE, hge, hne])).symm
          · have heq : tAt x i = tch0 := tch_eq h9
            refine WP.skip ?_
            refine WP.exit ?_
            refine WP.reg hT hE [] rfl ?_ ?_
            · first | trivial | (simp [holdsC, under, slOk, slB, capEq] <;> grind)
            refine ⟨i + 1, ?_, ?_, ?_⟩
            · exact ⟨hil, by simp [allTo, hal, rowE, hge, heq]⟩
            · refine Ent.mk hT [] trivial ⟨⟨rfl, _, rfl, by first | exact conv_eq rfl | (refine conv_eq ?_; rw [wrap_id (by omega) (by omega)]; simp; done) | (refine conv_eq ?_; simp; done)⟩, ⟨rfl, _, rfl, conv_eq (by simp [ownE, hlt])⟩, ⟨rfl, _, rfl, by first | exact conv_eq rfl | (refine conv_eq ?_; rw [wrap_id (by omega) (by omega)]; simp; done) | (refine conv_eq ?_; simp; done)⟩, trivial⟩ trivial rfl
            · (try simp only []); first | omega | grind
        · have hlt : (i : Int) < x.n := by simp at h8; omega
          have hrow := row_eq hlt
          rw [cmp_ge] at hrow
          have hm := most_ac (tAt x i).kind
          have hfw := few_ac (tAt x i).kind
          refine WP.skip ?_
          refine WP.seq ?_
          refine WP.seq ?_
          refine WP.drw hT hE hM [CG.pure (.int (mostF (tAt x i).kind))] rfl ?_ ?_
          · simp [holdsC, under, CG.pure]
            exact fun _ => hfw
          refine WP.cond rfl (fun h11 => ?_) (fun h11 => ?_)
          · simp only [bor, band] at h11
            refine WP.seq ?_
            refine WP.reg hT hE [] rfl ?_ ?_
            · first | trivial | (simp [holdsC, under, slOk, slB, capEq] <;> grind)
            refine WP.ret ?_
            change Fin _ _ _ _ _ _ _ _
            refine fin1 hT (by rfl) (right_no hil ?_).symm
            rw [hrow]
            have e : (decide ((tAt x i).num < 0) || decide ((tAt x i).num ≥ mostF (tAt x i).kind)) = true := h11
            rw [e]
            rfl
          · simp only [bor, band] at h11
            have e11 : (decide ((tAt x i).num < 0) || decide ((tAt x i).num ≥ mostF (tAt x i).kind)) = false := h11
            rw [e11, Bool.false_or] at hrow
            refine WP.skip ?_
            refine WP.seq ?_
            refine WP.seq ?_
            refine WP.reg hT hE [] rfl ?_ ?_
            · first | trivial | (simp [holdsC, under, slOk, slB, capEq] <;> grind)
            refine WP.cond rfl (fun h13 => ?_) (fun h13 => ?_)
            · have hi0 : 0 < i := by simp at h13; omega
              have ew : IntKind.i64.wrap ((i : Int) - 1) = ((i - 1 : Nat) : Int) := by rw [wrap_id (by omega) (by omega)]; omega
              refine WP.seq ?_
              refine WP.reg hT hE [] rfl ?_ ?_
              · simp [holdsC, under, ew]
                omega
              refine WP.seq ?_
              refine WP.reg hT hE [] rfl ?_ ?_
              · first | trivial | (simp [holdsC, under, slOk, slB, capEq] <;> grind)
              refine WP.cond rfl (fun h15 => ?_) (fun h15 => ?_)
              · simp only [bor, band] at h15
                rw [ew] at h15
                refine WP.seq ?_
                refine WP.reg hT hE [] rfl ?_ ?_
                · first | trivial | (simp [holdsC, under, slOk, slB, capEq] <;> grind)
                refine WP.ret ?_
                change Fin _ _ _ _ _ _ _ _
                refine fin1 hT (by rfl) (right_no hil ?_).symm
                rw [hrow]
                have e : (decide ((tAt x (i - 1)).kind > (tAt x i).kind) || ((tAt x (i - 1)).kind == (tAt x i).kind && decide ((tAt x (i - 1)).num ≥ (tAt x i).num))) = true := h15
                rw [e, decide_eq_true (show (i : Int) > 0 by omega)]
                rfl
              · simp only [bor, band] at h15
                rw [ew] at h15
                refine WP.skip ?_
                refine WP.reg hT hE [] rfl ?_ ?_
                · first | trivial | (simp [holdsC, under, slOk, slB, capEq] <;> grind)
                refine WP.reg hT hE [] rfl ?_ ?_
                · first | trivial | (simp [holdsC, under, slOk, slB, capEq] <;> grind)
                refine ⟨i + 1, ?_, ?_, ?_⟩
                · refine ⟨hil, ?_⟩
                  simp only [allTo, hal, Bool.true_and]
                  rw [hrow]
                  have e : (decide ((tAt x (i - 1)).kind > (tAt x i).kind) || ((tAt x (i - 1)).kind == (tAt x i).kind && decide ((tAt x (i - 1)).num ≥ (tAt x i).num))) = false := h15
                  rw [e, Bool.and_false]
                  rfl
                · refine Ent.mk hT [] trivial ⟨⟨rfl, _, rfl, by first | exact conv_eq rfl | (refine conv_eq ?_; rw [wrap_id (by omega) (by omega)]; simp; done) | (refine conv_eq ?_; simp; done)⟩, ⟨rfl, _, rfl, ?_⟩, ⟨rfl, _, rfl, by first | exact conv_eq rfl | (refine conv_eq ?_; rw [wrap_id (by omega) (by omega)]; simp; done) | (refine conv_eq ?_; simp; done)⟩, trivial⟩ trivial rfl
                  · refine conv_eq ?_
                    simp only [bor, band, ownE, decide_eq_true hlt, Bool.true_and, tch5]
                    rw [show ((tAt x i).wr == true && true) = (tAt x i).wr by cases (tAt x i).wr <;> rfl, Bool.and_assoc]
                    rfl
                · (try simp only []); first | omega | grind
            · have hi0 : i = 0 := by simp at h13; omega
              refine WP.skip ?_
              refine WP.reg hT hE [] rfl ?_ ?_
              · first | trivial | (simp [holdsC, under, slOk, slB, capEq] <;> grind)
              refine WP.reg hT hE [] rfl ?_ ?_
              · first | trivial | (simp [holdsC, under, slOk, slB, capEq] <;> grind)
              refine ⟨i + 1, ?_, ?_, ?_⟩
              · refine ⟨hil, ?_⟩
                simp only [allTo, hal, Bool.true_and]
                rw [hrow, decide_eq_false (show ¬ (i : Int) > 0 by omega)]
                rfl
              · refine Ent.mk hT [] trivial ⟨⟨rfl, _, rfl, by first | exact conv_eq rfl | (refine conv_eq ?_; rw [wrap_id (by omega) (by omega)]; simp; done) | (refine conv_eq ?_; simp; done)⟩, ⟨rfl, _, rfl, ?_⟩, ⟨rfl, _, rfl, by first | exact conv_eq rfl | (refine conv_eq ?_; rw [wrap_id (by omega) (by omega)]; simp; done) | (refine conv_eq ?_; simp; done)⟩, trivial⟩ trivial rfl
                · refine conv_eq ?_
                  simp only [bor, band, ownE, decide_eq_true hlt, Bool.true_and, tch5]
                  rw [show ((tAt x i).wr == true && true) = (tAt x i).wr by cases (tAt x i).wr <;> rfl, Bool.and_assoc]
                  rfl
              · (try simp only []); first | omega | grind
      · have hil : i = 6 := by simp at h5; omega
        subst hil
        refine WP.exit ?_
        refine WP.seq ?_
        refine WP.reg hT hE [] rfl ?_ ?_
        · first | trivial | (simp [holdsC, under, slOk, slB, capEq] <;> grind)
        refine WP.ret ?_
        change Fin _ _ _ _ _ _ _ _
        refine fin1 hT (by rfl) ?_
        simp [rightE, hh, hal]
def evt0 : Evt := ⟨0, 0, 0, 0, 0, 0, 0, [], 0⟩
def evts (f : Bool) (l : List Evt) : AV := .row 73 f l.length (fun i => encE (l.getD i evt0))
def eAt (l : List Evt) (i : Nat) : Evt := l.getD i evt0
def badE (c : Evt) : Bool := !rightE c
def firstE (h : List Evt) : Int := if h.any badE then h.findIdx badE else -1
theorem anyE_no {h : List Evt} (hn : ∀ j, j < h.length → badE (h.getD j evt0) = false) : h.any badE = false := by
  rw [List.any_eq_false]
  intro x hx
  obtain ⟨i, hi, e⟩ := List.getElem_of_mem hx
  have := hn i hi
  simpa [hi, e] using this
theorem anyE_yes {h : List Evt} {i : Nat} (hi : i < h.length) (hp : badE (h.getD i evt0) = true) : h.any badE = true := by
  rw [List.any_eq_true]
  exact ⟨h[i], List.getElem_mem hi, by simpa [hi] using hp⟩
theorem firstE_none {h : List Evt} (hn : ∀ j, j < h.length → badE (h.getD j evt0) = false) : -1 = firstE h := by
  simp [firstE, anyE_no hn]
theorem firstE_at {h : List Evt} {i : Nat} (hi : i < h.length) (hp : badE (h.getD i evt0) = true) (hn : ∀ j, j < i → badE (h.getD j evt0) = false) : (i : Int) = firstE h := by
  have h1 := anyE_yes hi hp
  simp only [firstE, h1, if_true]
  congr 1
  symm
  rw [List.findIdx_eq hi]
  refine ⟨by simpa [hi] using hp, fun j hj => ?_⟩
  have := hn j hj
  have hj' : j < h.length := by omega
  simpa [hj'] using this
theorem echk_ac (x : Evt) : AC Tryz.prog T tysN 115 [encE x] [] (.bool (badE x)) [] := by
  refine AC_intro hT Tryz.func115 rfl rfl (Nat.le_of_ble_eq_true rfl) ?_
  refine WP.seq ?_
  refine WP.reg hT hE [] rfl ?_ ?_
  · first | trivial | (simp [holdsC, under, slOk, slB, capEq] <;> grind)
  refine WP.seq ?_
  refine WP.reg hT hE [CG.pure (.bool (rightE x))] rfl ?_ ?_
  · exact ⟨rfl, dright_ac x⟩
  refine WP.ret ?_
  change Fin _ _ _ _ _ _ _ _
  exact fin1 hT rfl rfl
theorem eidx_ac (g : Bool) (h : List Evt) : AC Tryz.prog T tysN 163 [evts g h, .clo 115 []] [] (.int (firstE h)) [] := by
  refine AC_intro hT Tryz.func163 rfl rfl (Nat.le_of_ble_eq_true rfl) ?_
  refine WP.rowlen 0 rfl (fun hl => ?_)
  refine WP.seq ?_
  refine WP.reg hT hE [] rfl ?_ ?_
  · first | trivial | (simp [holdsC, under, slOk, slB, capEq] <;> grind)
  refine WP.seq ?_
  refine WP.seq ?_
  refine WP.reg hT hE [] rfl ?_ ?_
  · first | trivial | (simp [holdsC, under, slOk, slB, capEq] <;> grind)
  refine WP.block ?_
  refine WP.loop (α := Nat) (fun i => mkSt [(0, evts g h), (1, .clo 115 []), (7, .int h.length), (8, .int i)] []) (fun i => i ≤ h.length ∧ ∀ j, j < i → badE (h.getD j evt0) = false) (fun i => h.length - i) ?_ ?_
  · refine ⟨0, ?_, ?_⟩
    · exact ⟨Nat.zero_le _, fun j hj => by omega⟩
    · refine Ent.mk hT [] trivial ⟨⟨rfl, _, rfl, by first | exact conv_eq rfl | (refine conv_eq ?_; rw [wrap_id (by omega) (by omega)]; simp; done) | (refine conv_eq ?_; simp; done)⟩, ⟨rfl, _, rfl, by first | exact conv_eq rfl | (refine conv_eq ?_; rw [wrap_id (by omega) (by omega)]; simp; done) | (refine conv_eq ?_; simp; done)⟩, ⟨rfl, _, rfl, by first | exact conv_eq rfl | (refine conv_eq ?_; rw [wrap_id (by omega) (by omega)]; simp; done) | (refine conv_eq ?_; simp; done)⟩, ⟨rfl, _, rfl, by first | exact conv_eq rfl | (refine conv_eq ?_; rw [wrap_id (by omega) (by omega)]; simp; done) | (refine conv_eq ?_; simp; done)⟩, trivial⟩ trivial rfl
  · rintro i ⟨hi, hn⟩
    refine WP.seq ?_
    refine WP.reg hT hE [] rfl ?_ ?_
    · first | trivial | (simp [holdsC, under, slOk, slB, capEq] <;> grind)
    refine WP.seq ?_
    refine WP.cond rfl (fun h2 => ?_) (fun h2 => ?_)
    · have hil : i < h.length := by simpa using h2
      refine WP.skip ?_
      refine WP.seq ?_
      refine WP.block ?_
      refine WP.seq ?_
      refine WP.reg hT hE [] rfl ?_ ?_
      · first | trivial | (simp [holdsC, under, slOk, slB, capEq] <;> grind)
      refine WP.seq ?_
      refine WP.reg hT hE [CG.pure (.bool (badE (h.getD i evt0)))] rfl ?_ ?_
      · exact ⟨⟨by omega, by omega⟩, echk_ac _⟩
      refine WP.cond rfl (fun h4 => ?_) (fun h4 => ?_)
      · have hx : badE (h.getD i evt0) = true := h4
        refine WP.seq ?_
        refine WP.reg hT hE [] rfl ?_ ?_
        · first | trivial | (simp [holdsC, under, slOk, slB, capEq] <;> grind)
        refine WP.ret ?_
        change Fin _ _ _ _ _ _ _ _
        exact finI hT rfl (firstE_at hil hx hn)
      · have hx : badE (h.getD i evt0) = false := h4
        refine WP.skip ?_
        refine WP.reg hT hE [] rfl ?_ ?_
        · first | trivial | (simp [holdsC, under, slOk, slB, capEq] <;> grind)
        refine ⟨i + 1, ?_, ?_, ?_⟩
        · refine ⟨hil, fun j hj => ?_⟩
          rcases Nat.lt_or_ge j i with h | h
          · exact hn j h
          · obtain rfl : j = i := by omega
            exact hx
        · refine Ent.mk hT [] trivial ⟨⟨rfl, _, rfl, by first | exact conv_eq rfl | (refine conv_eq ?_; rw [wrap_id (by omega) (by omega)]; simp; done) | (refine conv_eq ?_; simp; done)⟩, ⟨rfl, _, rfl, by first | exact conv_eq rfl | (refine conv_eq ?_; rw [wrap_id (by omega) (by omega)]; simp; done) | (refine conv_eq ?_; simp; done)⟩, ⟨rfl, _, rfl, by first | exact conv_eq rfl | (refine conv_eq ?_; rw [wrap_id (by omega) (by omega)]; simp; done) | (refine conv_eq ?_; simp; done)⟩, ⟨rfl, _, rfl, by first | exact conv_eq rfl | (refine conv_eq ?_; rw [wrap_id (by omega) (by omega)]; simp; done) | (refine conv_eq ?_; simp; done)⟩, trivial⟩ trivial rfl
        · (try simp only []); first | omega | grind
    · have hil : i = h.length := by simp at h2; omega
      subst hil
      refine WP.exit ?_
      refine WP.seq ?_
      refine WP.reg hT hE [] rfl ?_ ?_
      · first | trivial | (simp [holdsC, under, slOk, slB, capEq] <;> grind)
      refine WP.ret ?_
      change Fin _ _ _ _ _ _ _ _
      exact finI hT rfl (firstE_none hn)
theorem econt_ac (g : Bool) (h : List Evt) : AC Tryz.prog T tysN 114 [evts g h, .clo 115 []] [] (.bool (h.any badE)) [] := by
  refine AC_intro hT Tryz.func114 rfl rfl (Nat.le_of_ble_eq_true rfl) ?_
  refine WP.seq ?_
  refine WP.reg hT hE [] rfl ?_ ?_
  · first | trivial | (simp [holdsC, under, slOk, slB, capEq] <;> grind)
  refine WP.seq ?_
  refine WP.reg hT hE [CG.pure (.int (firstE h))] rfl ?_ ?_
  · exact eidx_ac g h
  refine WP.ret ?_
  change Fin _ _ _ _ _ _ _ _
  refine fin1 hT rfl ?_
  by_cases h : h.any badE = true
  · simp only [firstE, h, if_true]; simp
  · simp only [firstE, h]; simp
def chkE (h : List Evt) : Int := if h.length > 256 then 2 else if h.any badE then 7 else 0
theorem dcheck_ac (g : Bool) (h : List Evt) : AC Tryz.prog T tysN 72 [evts g h] [] (.int (chkE h)) [] := by
  refine AC_intro hT Tryz.func72 rfl rfl (Nat.le_of_ble_eq_true rfl) ?_
  refine WP.seq ?_
  refine WP.reg hT hE [] rfl ?_ ?_
  · first | trivial | (simp [holdsC, under, slOk, slB, capEq] <;> grind)
  refine WP.seq ?_
  refine WP.seq ?_
  refine WP.reg hT hE [] rfl ?_ ?_
  · first | trivial | (simp [holdsC, under, slOk, slB, capEq] <;> grind)
  refine WP.cond rfl (fun h1 => ?_) (fun h1 => ?_)
  · have hgt : h.length > 256 := by simp at h1; omega
    refine WP.seq ?_
    refine WP.reg hT hE [] rfl ?_ ?_
    · first | trivial | (simp [holdsC, under, slOk, slB, capEq] <;> grind)
    refine WP.ret ?_
    change Fin _ _ _ _ _ _ _ _
    refine finI hT rfl ?_
    simp [chkE, hgt]
  · have hgt : ¬ h.length > 256 := by simp at h1; omega
    refine WP.skip ?_
    refine WP.seq ?_
    refine WP.seq ?_
    refine WP.reg hT hE [CG.pure (.bool (h.any badE))] rfl ?_ ?_
    · exact econt_ac g h
    refine WP.cond rfl (fun h3 => ?_) (fun h3 => ?_)
    · have hb : h.any badE = true := h3
      refine WP.seq ?_
      refine WP.reg hT hE [] rfl ?_ ?_
      · first | trivial | (simp [holdsC, under, slOk, slB, capEq] <;> grind)
      refine WP.ret ?_
      change Fin _ _ _ _ _ _ _ _
      refine finI hT rfl ?_
      simp [chkE, hgt, hb]
    · have hb : h.any badE = false := h3
      refine WP.skip ?_
      refine WP.seq ?_
      refine WP.reg hT hE [] rfl ?_ ?_
      · first | trivial | (simp [holdsC, under, slOk, slB, capEq] <;> grind)
      refine WP.ret ?_
      change Fin _ _ _ _ _ _ _ _
      refine finI hT rfl ?_
      simp [chkE, hgt, hb]
theorem rcheck_ac (g : Bool) (h : List Evt) : AC Tryz.prog T tysN 17 [evts g h] [] (.int (chkE h)) [] := by
  refine AC_intro hT Tryz.func17 rfl rfl (Nat.le_of_ble_eq_true rfl) ?_
  refine WP.seq ?_
  refine WP.reg hT hE [] rfl ?_ ?_
  · first | trivial | (simp [holdsC, under, slOk, slB, capEq] <;> grind)
  refine WP.seq ?_
  refine WP.seq ?_
  refine WP.reg hT hE [] rfl ?_ ?_
  · first | trivial | (simp [holdsC, under, slOk, slB, capEq] <;> grind)
  refine WP.cond rfl (fun h1 => ?_) (fun h1 => ?_)
  · have hgt : h.length > 256 := by simp at h1; omega
    refine WP.seq ?_
    refine WP.reg hT hE [] rfl ?_ ?_
    · first | trivial | (simp [holdsC, under, slOk, slB, capEq] <;> grind)
    refine WP.ret ?_
    change Fin _ _ _ _ _ _ _ _
    refine finI hT rfl ?_
    simp [chkE, hgt]
  · have hgt : ¬ h.length > 256 := by simp at h1; omega
    refine WP.skip ?_
    refine WP.seq ?_
    refine WP.seq ?_
    refine WP.reg hT hE [] rfl ?_ ?_
    · first | trivial | (simp [holdsC, under, slOk, slB, capEq] <;> grind)
    refine WP.block ?_
    refine WP.loop (α := Nat) (fun i => mkSt [(0, evts g h), (3, .int i)] []) (fun i => i ≤ h.length ∧ ∀ j, j < i → badE (h.getD j evt0) = false) (fun i => h.length - i) ?_ ?_
    · refine ⟨0, ?_, ?_⟩
      · exact ⟨Nat.zero_le _, fun j hj => by omega⟩
      · refine Ent.mk hT [] trivial ⟨⟨rfl, _, rfl, by first | exact conv_eq rfl | (refine conv_eq ?_; rw [wrap_id (by omega) (by omega)]; simp; done) | (refine conv_eq ?_; simp; done)⟩, ⟨rfl, _, rfl, by first | exact conv_eq rfl | (refine conv_eq ?_; rw [wrap_id (by omega) (by omega)]; simp; done) | (refine conv_eq ?_; simp; done)⟩, trivial⟩ trivial rfl
    · rintro i ⟨hi, hn⟩
      refine WP.seq ?_
      refine WP.seq ?_
      refine WP.reg hT hE [] rfl ?_ ?_
      · first | trivial | (simp [holdsC, under, slOk, slB, capEq] <;> grind)
      refine WP.cond rfl (fun h4 => ?_) (fun h4 => ?_)
      · have hil : i < h.length := by simpa using h4
        refine WP.skip ?_
        refine WP.seq ?_
        refine WP.block ?_
        refine WP.seq ?_
        refine WP.reg hT hE [CG.pure (.bool (rightE (h.getD i evt0)))] rfl ?_ ?_
        · exact ⟨⟨by omega, by omega⟩, eright_ac _⟩
        refine WP.cond rfl (fun h6 => ?_) (fun h6 => ?_)
        · have hx : badE (h.getD i evt0) = true := h6
          refine WP.seq ?_
          refine WP.reg hT hE [] rfl ?_ ?_
          · first | trivial | (simp [holdsC, under, slOk, slB, capEq] <;> grind)
          refine WP.ret ?_
          change Fin _ _ _ _ _ _ _ _
          refine finI hT rfl ?_
          simp [chkE, hgt, anyE_yes hil hx]
        · have hx : badE (h.getD i evt0) = false := h6
          refine WP.skip ?_
          refine WP.reg hT hE [] rfl ?_ ?_
          · first | trivial | (simp [holdsC, under, slOk, slB, capEq] <;> grind)
          refine ⟨i + 1, ?_, ?_, ?_⟩
          · refine ⟨hil, fun j hj => ?_⟩
            rcases Nat.lt_or_ge j i with h | h
            · exact hn j h
            · obtain rfl : j = i := by omega
              exact hx
          · refine Ent.mk hT [] trivial ⟨⟨rfl, _, rfl, by first | exact conv_eq rfl | (refine conv_eq ?_; rw [wrap_id (by omega) (by omega)]; simp; done) | (refine conv_eq ?_; simp; done)⟩, ⟨rfl, _, rfl, by first | exact conv_eq rfl | (refine conv_eq ?_; rw [wrap_id (by omega) (by omega)]; simp; done) | (refine conv_eq ?_; simp; done)⟩, trivial⟩ trivial rfl
          · (try simp only []); first | omega | grind
      · have hil : i = h.length := by simp at h4; omega
        subst hil
        refine WP.exit ?_
        refine WP.seq ?_
        refine WP.reg hT hE [] rfl ?_ ?_
        · first | trivial | (simp [holdsC, under, slOk, slB, capEq] <;> grind)
        refine WP.ret ?_
        change Fin _ _ _ _ _ _ _ _
        refine finI hT rfl ?_
        simp [chkE, hgt, anyE_no hn]
end Go.Ab


/- Ab, part 39: loops over functions. -/
set_option autoImplicit false
set_option linter.unusedVariables false
namespace Go.Ab
section
variable {P : Program} {T : Nat → TI} {N : Nat}
/-- Memory has grown; nothing that was there has changed. -/
structure Grown (A B : World) : Prop where
  size : A.heap.size ≤ B.heap.size
  same : ∀ b, b < A.heap.size → B.heap[b]? = A.heap[b]?
  os : B.os = A.os
  output : B.output = A.output
  tape : B.tape = A.tape ∧ A.drawn ≤ B.drawn
theorem Grown.refl (A : World) : Grown A A := ⟨Nat.le_refl _, fun _ _ => rfl, rfl, rfl, rfl, Nat.le_refl _⟩
theorem Grown.trans {A B C : World} (h : Grown A B) (k : Grown B C) : Grown A C :=
  ⟨Nat.le_trans h.size k.size, fun b hb => (k.same b (Nat.lt_of_lt_of_le hb h.size)).trans (h.same b hb), k.os.trans h.os, k.output.trans h.output, k.tape.1.trans h.tape.1, Nat.le_trans h.tape.2 k.tape.2⟩
theorem Grown.heap {A B : World} (h : Grown A B) {b : Nat} {o : Obj} (hb : A.heap[b]? = some o) : B.heap[b]? = some o :=
  (h.same b (Array.getElem?_eq_some_iff.1 hb).1).trans hb
theorem Grown.cell {A B : World} (h : Grown A B) {a : Addr} {y : Value} (hc : A.cell? a = some y) : B.cell? a = some y := by
  unfold World.cell? at hc ⊢
  cases hb : A.heap[a.block]? with
  | none => rw [hb] at hc; cases hc
  | some o => rw [hb] at hc; rw [h.heap hb]; exact hc
theorem Grown.of_ev {I I' : Imm} {ρ' : Pl} {w w' : World} (h : Ev I noPl w I' ρ' w') : Grown w w' :=
  ⟨h.size, fun b hb => h.frame b hb (fun id p hp => by cases hp), h.os, h.output, h.tape⟩
theorem Grown.alloc (w : World) (o : Obj) : Grown w (w.alloc o) :=
  ⟨by simp, fun b hb => heap_alloc_lt w o hb, rfl, rfl, rfl, Nat.le_refl _⟩
theorem WRep.grown {I : Imm} {ρ : Pl} {m : Id → Option Ob} {w w' : World} (h : WRep T N I ρ m w) (hg : Grown w w') : WRep T N I ρ m w' where
  cells := fun id B hB => by
    rcases h.cells id B hB with h1 | ⟨p, cs, d1, d2, d3, d4, d5, d⟩
    · exact .inl h1
    · exact .inr ⟨p, cs, d1, d2, d3, d4, hg.heap d5, d⟩
  maps := fun id es hB => by
    obtain ⟨p, en, cl, d1, d2, d3, d⟩ := h.maps id es hB
    exact ⟨p, en, cl, d1, d2, hg.heap d3, d⟩
  dom := h.dom
  inj := h.inj
  imm := fun b o y hy => hg.cell (h.imm b o y hy)
theorem Ev.grown {I I' : Imm} {ρ ρ' : Pl} {w w' w2 : World} (h : Ev I ρ w I' ρ' w') (hg : Grown w' w2) : Ev I ρ w I' ρ' w2 :=
  ⟨h.imm, h.immN, h.pl, h.plN, fun b hb hne => (hg.same b (Nat.lt_of_lt_of_le hb h.size)).trans (h.frame b hb hne), Nat.le_trans h.size hg.size, hg.os.trans h.os, hg.output.trans h.output, hg.tape.1.trans h.tape.1, Nat.le_trans h.tape.2 hg.tape.2⟩
theorem WRep.put_other {I : Imm} {ρ : Pl} {m : Id → Option Ob} {w : World} (h : WRep T N I ρ m w) {l : Nat} {o : Obj} (o' : Obj) (ho : w.heap[l]? = some o) (hc : o.isCells = false) (hl : ∀ id p, ρ id = some p → p.b ≠ l) : WRep T N I ρ m (w.putObj l o') where
  cells := fun id B hB => by
    rcases h.cells id B hB with h1 | ⟨p, cs, d1, d2, d3, d4, d5, d⟩
    · exact .inl h1
    · exact .inr ⟨p, cs, d1, d2, d3, d4, by rw [World.putObj_heap_other (hl id p d1)]; exact d5, d⟩
  maps := fun id es hB => by
    obtain ⟨p, en, cl, d1, d2, d3, d⟩ := h.maps id es hB
    exact ⟨p, en, cl, d1, d2, by rw [World.putObj_heap_other (hl id p d1)]; exact d3, d⟩
  dom := h.dom
  inj := h.inj
  imm := fun b o2 y hy => by
    have h0 := h.imm b o2 y hy
    have hb : b ≠ l := by
      rintro rfl
      simp only [World.cell?, ho] at h0
      cases o <;> simp_all [Obj.isCells]
    simp only [World.cell?, World.putObj_heap_other hb]
    exact h0
theorem Ev.put_other {I I' : Imm} {ρ ρ' : Pl} {w w' : World} (h : Ev I ρ w I' ρ' w') {l : Nat} (o' : Obj) (hl : w.heap.size ≤ l) : Ev I ρ w I' ρ' (w'.putObj l o') :=
  ⟨h.imm, h.immN, h.pl, h.plN, fun b hb hne => by rw [World.putObj_heap_other (by omega)]; exact h.frame b hb hne, by simpa using h.size, h.os, h.output, h.tape⟩
theorem cell_put_other {w : World} {l : Nat} {o : Obj} (o' : Obj) (ho : w.heap[l]? = some o) (hc : o.isCells = false) {b i : Nat} {y : Value} (h : w.cell? ⟨b, i, none⟩ = some y) : (w.putObj l o').cell? ⟨b, i, none⟩ = some y := by
  have hb : b ≠ l := by
    rintro rfl
    simp only [World.cell?, ho] at h
    cases o <;> simp_all [Obj.isCells]
  simp only [World.cell?, World.putObj_heap_other hb]
  exact h

/-- **What an iterator comes to**: the value of function gf, with 'caps' bound, calls yield at the elements of some xs, of which S holds, one behind the other (at each call fewer than M have come); between two calls nothing that was there changes. Y: which blocks the rounds may write. -/
def IterC (P : Program) (T : Nat → TI) (N : Nat) (gf : FuncId) (caps : List AV) {α : Type} (encs : α → Array Value) (S : List α → Prop) (M : Nat) : Prop :=
  (∀ args w, (callFunc gf args).run P w = .ok (.enter gf args) w) ∧
  ∀ (I : Imm) (lb : Array Value), lb.size = caps.length → (∀ i a, caps[i]? = some a → Rep1 T N I noPl a (lb.getD i undef)) →
    ∀ (l : Nat) (J : List α → (Nat → Prop) → World → Prop) (Y0 : Nat → Prop) (W : World), (∀ b o y, I b o = some y → W.cell? ⟨b, o, none⟩ = some y) →
      (∀ pre Y A b, J pre Y A → Y b → b < A.heap.size) →
      (∀ pre x Y Wp W1, J pre Y Wp → Grown Wp W1 → pre.length < M → ∀ n, YieldAt Fence.wide n P l (encs x) W1 fun e W' => e = .returned (.bool true) ∧
        (∃ Y', J (pre ++ [x]) Y' W' ∧ ∀ b, Y' b → Y b ∨ W1.heap.size ≤ b) ∧ (∀ b o y, I b o = some y → W1.cell? ⟨b, o, none⟩ = some y → W'.cell? ⟨b, o, none⟩ = some y) ∧
        (∀ b, b < W1.heap.size → ¬ Y b → W'.heap[b]? = W1.heap[b]?) ∧ W1.heap.size ≤ W'.heap.size) →
      J [] Y0 W →
      Calls P gf (#[.func (.yield l) #[] #[]] ++ lb) W fun e W' => (∃ v, e = .returned v) ∧ ∃ xs Y Wp, S xs ∧ J xs Y Wp ∧ Grown Wp W'

def setPs (t : Nat → Option (D × AV)) : List (Tmp × AV) → Nat → Option (D × AV)
  | [] => t
  | (k, x) :: r => setPs (setT t k (some (.always, x))) r
def rndP (T : Nat → TI) (N nt nb : Nat) (B : List Ob) : Post := fun ex st => match ex with
  | .normal => Ent T N nt nb st ⟨fun _ => none, ofB B⟩
  | _ => False
theorem foldl_size : ∀ (l : List (Tmp × Value)) (tmps : Array Value), (l.foldl (fun t (p : Tmp × Value) => t.setIfInBounds p.1 p.2) tmps).size = tmps.size
  | [], _ => rfl
  | p :: r, tmps => by simp only [List.foldl_cons]; rw [foldl_size r]; simp
theorem tm_fold {I : Imm} {ρ : Pl} : ∀ (l : List (Tmp × Value)) (k : List (Tmp × AV)) (t : Nat → Option (D × AV)) (tmps : Array Value), l.length = k.length → (∀ (i : Nat) (p : Tmp × Value) (q : Tmp × AV), l[i]? = some p → k[i]? = some q → p.1 = q.1 ∧ q.1 < tmps.size ∧ RepV T N I ρ q.2 p.2) →
    (∀ j d x, t j = some (d, x) → (d.tr → RepV T N I ρ x (tmps.getD j undef)) ∧ (¬ d.tr → tmps.getD j undef = undef)) →
    ∀ j d x, setPs t k j = some (d, x) → (d.tr → RepV T N I ρ x ((l.foldl (fun t (p : Tmp × Value) => t.setIfInBounds p.1 p.2) tmps).getD j undef)) ∧ (¬ d.tr → (l.foldl (fun t (p : Tmp × Value) => t.setIfInBounds p.1 p.2) tmps).getD j undef = undef)
  | [], [], t, tmps, _, _, ht => ht
  | [], _ :: _, _, _, h, _, _ => by simp at h
  | _ :: _, [], _, _, h, _, _ => by simp at h
  | p :: l, q :: k, t, tmps, hl, hp, ht => by
    obtain ⟨h1, h2, h3⟩ := hp 0 p q rfl rfl
    simp only [List.foldl_cons, setPs]
    refine tm_fold l k _ _ (by simpa using hl) (fun i p' q' hp' hq' => ?_) (fun j d x hj => ?_)
    · have := hp (i + 1) p' q' (by simpa using hp') (by simpa using hq')
      simpa using this
    · by_cases hjk : j = q.1
      · subst hjk
        simp only [setT, Nat.beq_refl, cond_true, Option.some.injEq, Prod.mk.injEq] at hj
        obtain ⟨rfl, rfl⟩ := hj
        rw [h1]
        refine ⟨fun _ => ?_, fun h => absurd trivial h⟩
        have : (tmps.setIfInBounds q.1 p.2).getD q.1 undef = p.2 := by
          simp [Array.getD_eq_getD_getElem?, Array.getElem?_setIfInBounds, h2]
        rw [this]; exact h3
      · simp only [setT, nbeq_ne hjk, cond_false] at hj
        have : (tmps.setIfInBounds p.1 p.2).getD j undef = tmps.getD j undef := by
          rw [h1]
          simp [Array.getD_eq_getD_getElem?, Array.getElem?_setIfInBounds, Ne.symm hjk]
        rw [this]
        exact ht j d x hj
end
end Go.Ab

/- Ab, part 40: the rule for loops over functions. -/
set_option autoImplicit false
set_option linter.unusedVariables false
namespace Go.Ab
section
variable {P : Program} {T : Nat → TI} {N : Nat}
theorem Ev.put_both {I I' : Imm} {ρ ρ' : Pl} {w w' : World} (h : Ev I ρ w I' ρ' w') {l : Nat} (o : Obj) (hl : l < w.heap.size) : Ev I ρ (w.putObj l o) I' ρ' (w'.putObj l o) :=
  ⟨h.imm, by simpa using h.immN, h.pl, by simpa using h.plN, fun b hb hne => by
    by_cases hbl : b = l
    · subst hbl
      rw [World.putObj_heap_same hl, World.putObj_heap_same (Nat.lt_of_lt_of_le hl h.size)]
    · rw [World.putObj_heap_other hbl, World.putObj_heap_other hbl]
      exact h.frame b (by simpa using hb) hne, by simpa using h.size, h.os, h.output, h.tape⟩
theorem Ev.put_back {I I' : Imm} {ρ ρ' : Pl} {w w' : World} {l : Nat} {o o' : Obj} (h : Ev I ρ (w.putObj l o') I' ρ' w') (ho : w.heap[l]? = some o) : Ev I ρ w I' ρ' (w'.putObj l o) :=
  have hl : l < w.heap.size := (Array.getElem?_eq_some_iff.1 ho).1
  have hsz : w.heap.size ≤ w'.heap.size := by simpa using h.size
  ⟨h.imm, by simpa using h.immN, h.pl, by simpa using h.plN, fun b hb hne => by
    by_cases hbl : b = l
    · subst hbl
      rw [World.putObj_heap_same (Nat.lt_of_lt_of_le hl hsz), ho]
    · rw [World.putObj_heap_other hbl, h.frame b (by simpa using hb) hne, World.putObj_heap_other hbl], by simpa using hsz, h.os, h.output, h.tape⟩
theorem Marks.put_other {n0 : Nat} {ρ : Pl} {w : World} {ds : List Deferred} (h : Marks n0 ρ w ds) {l : Nat} {lp : Loop} (o : Obj) (hl : w.heap[l]? = some (.loop lp)) : Marks n0 ρ (w.putObj l o) ds := by
  obtain ⟨Ds, h1, h2, h3⟩ := h
  refine ⟨Ds, h1, h2, fun D hD => ?_⟩
  obtain ⟨k1, k2, k3⟩ := h3 D hD
  have : D ≠ l := by rintro rfl; rw [hl] at k1; cases k1
  exact ⟨by rw [World.putObj_heap_other this]; exact k1, k2, k3⟩
/-- A loop over a function: the objects of ours go by the names b 0, b 1, ..; Bl: what they are when such elements have come. -/
theorem WP.rangeF {R : Option Nat → Bool → Prop} (hR : ∀ r d, R r d → r = none ∧ d = false) {nt nb nb2 : Nat} {post : Post} {g : Operand} {ps : Array Tmp} {assign body : Code} {t0 : Nat → Option (D × AV)} {gf : FuncId} {caps : List AV} {α : Type} {encs : α → Array Value} {A : α → List AV} {S : List α → Prop} {M : Nat} (Bl : List α → List Ob)
    (hg : ev ⟨t0, ofB (Bl [])⟩ g = some (.always, .clo gf caps)) (hcaps : caps.all (fun a => noIds a && oneA a) = true) (hit : IterC P T N gf caps encs S M)
    (hA : ∀ (x : α) (I : Imm) (ρ : Pl), (A x).length = ps.size ∧ (encs x).size = ps.size ∧ ∀ i a, (A x)[i]? = some a → RepV T N I ρ a ((encs x).getD i undef))
    (hps : ∀ p ∈ ps.toList, p < nt) (hlen : ∀ pre, (Bl pre).length = nb2)
    (hbody : ∀ pre x, pre.length < M → WP Rrd P T N nt nb2 assign (thenP (WP Rrd P T N nt nb2 body (rndP T N nt nb2 (Bl (pre ++ [x])))) (fun _ _ => False)) ⟨setPs t0 (ps.toList.zip (A x)), ofB (Bl pre)⟩)
    (hdone : ∀ xs, S xs → post .normal ⟨t0, ofB (Bl xs)⟩) : WP R P T N nt nb (.rangeFunc g ps assign body) post ⟨t0, ofB (Bl [])⟩ := by
  intro e h1 h2 I ρ a w hs rd hr n
  obtain ⟨rfl, hnd⟩ := hR rd _ hr
  refine wpIn_rangeFunc ?_
  intro fn hfn
  have hcl := (ev_rep hs hg trivial).rep1 (fun _ => by simp)
  obtain ⟨lb, hev, hlb, hcl⟩ : ∃ lb : Array Value, a.eval g = .func (.func gf) #[] lb ∧ lb.size = caps.length ∧ ∀ i c, caps[i]? = some c → Rep T N I ρ c [lb.getD i undef] := by
    obtain ⟨cs, k1, k2⟩ := hcl
    cases k1 with
    | clo ys hl h => exact ⟨ys, k2, hl, h⟩
  have hcl' : ∀ i c, caps[i]? = some c → Rep1 T N I noPl c (lb.getD i undef) := fun i c hc => by
    have hc' := List.all_eq_true.1 hcaps c (List.mem_of_getElem? hc)
    simp only [Bool.and_eq_true] at hc'
    have := (hcl i c hc).noIds hc'.1 noPl
    refine ⟨_, this, ?_⟩
    cases c <;> first | rfl | (simp [oneA] at hc')
  have hw := hs.wr
  obtain ⟨lp, hlp⟩ : ∃ lp : LoopState → Loop, lp = fun st => { state := st, pending := none, fn, tmps := a.tmps, params := ps, assign, body, defers := w.heap.size } := ⟨_, rfl⟩
  obtain ⟨W0, hW0⟩ : ∃ W0, (w.alloc (.deferred (some []))).alloc (.loop (lp .ready)) = W0 := ⟨_, rfl⟩
  have hgr0 : Grown w W0 := by rw [← hW0]; exact (Grown.alloc _ _).trans (Grown.alloc _ _)
  have hL0 : W0.heap[w.heap.size + 1]? = some (.loop (lp .ready)) := by
    rw [← hW0]; have := World.alloc_heap_new (w.alloc (.deferred (some []))) (.loop (lp .ready)); rwa [World.size_alloc] at this
  have hD0 : W0.heap[w.heap.size]? = some (.deferred (some [])) := by
    rw [← hW0]; exact (Grown.alloc _ _).heap (World.alloc_heap_new w _)
  refine ⟨w.heap.size + 1, [markOf w.heap.size], W0, { target := .fn (.func gf) lb, args := #[.func (.yield (w.heap.size + 1)) #[] #[]] }, W0, gf, #[.func (.yield (w.heap.size + 1)) #[] #[]] ++ lb, W0, ?_, ?_, fun _ _ => trivial, ?_, fun h => (by cases h), ?_⟩
  · rw [← hW0, hlp]; exact run_enterLoop_outer _ _ _ _ _
  · simp only [resolve, hev]
    simp [go_sem]
  · have eg := hit.1
    simp [invoke, go_sem, eg]
  refine callsIn_wideR.2 ((hit.2 I lb hlb hcl' (w.heap.size + 1)
    (fun pre Y W => ∃ I1 ρ1, WRep T N I1 ρ1 (ofB (Bl pre)) W ∧ Ev I ρ w I1 ρ1 W ∧ W.heap[w.heap.size + 1]? = some (.loop (lp .ready)) ∧ W.heap[w.heap.size]? = some (.deferred (some [])) ∧ (∀ id p, ρ1 id = some p → p.b ≠ w.heap.size + 1 ∧ p.b ≠ w.heap.size) ∧ Y = fun b => ∃ id p, ρ1 id = some p ∧ p.b = b)
    (fun b => ∃ id p, ρ id = some p ∧ p.b = b) W0 (fun b o y h => hgr0.cell (hw.imm b o y h)) ?_ ?_ ?_).mono ?_)
  · rintro pre Y A b ⟨I1, ρ1, k1, _, _, _, _, rfl⟩ ⟨id, p, hp, rfl⟩
    exact k1.place_lt hp
  · rintro pre x Y Wp W1 ⟨I1, ρ1, k1, k2, k3, k4, k5, rfl⟩ hgr hM m
    have k1' := k1.grown hgr
    have k2' := k2.grown hgr
    have hl1 := hgr.heap k3
    have hd1 := hgr.heap k4
    have hlt : w.heap.size + 1 < W1.heap.size := (Array.getElem?_eq_some_iff.1 hl1).1
    have hnl : ∀ id p, ρ1 id = some p → p.b ≠ w.heap.size + 1 := fun id p hp => (k5 id p hp).1
    obtain ⟨hA1, hA2, hA3⟩ := hA x I1 ρ1
    have hy := run_yield (P := P) (args := encs x) hl1 (by rw [hlp]; exact hA2)
    have htm : ∀ j d y, setPs t0 (ps.toList.zip (A x)) j = some (d, y) → (d.tr → RepV T N I1 ρ1 y (((ps.toList.zip (encs x).toList).foldl (fun t (p : Tmp × Value) => t.setIfInBounds p.1 p.2) a.tmps).getD j undef)) ∧ (¬ d.tr → ((ps.toList.zip (encs x).toList).foldl (fun t (p : Tmp × Value) => t.setIfInBounds p.1 p.2) a.tmps).getD j undef = undef) := by
      refine tm_fold _ _ _ _ (by simp [hA1, hA2]) (fun i p q hp hq => ?_) (fun j d y hj => ?_)
      · simp only [List.getElem?_zip_eq_some] at hp hq
        obtain ⟨p1, p2⟩ := hp
        obtain ⟨q1, q2⟩ := hq
        rw [p1] at q1
        have e1 : p.1 = q.1 := by simpa using q1
        refine ⟨e1, ?_, ?_⟩
        · rw [hs.nt, h1, ← e1]
          exact hps p.1 (List.mem_of_getElem? p1)
        · have := hA3 i q.2 q2
          have e2 : (encs x).getD i undef = p.2 := by
            have : (encs x)[i]? = some p.2 := by simpa using p2
            simp [Array.getD_eq_getD_getElem?, this]
          rw [e2] at this; exact this
      · obtain ⟨g1, g2⟩ := hs.tm j d y hj
        exact ⟨fun h => (g1 h).mono k2.imm k2.pl, g2⟩
    have hfold : ((lp .ready).params.zip (encs x)).foldl (fun tmps x => match x with | (t, a) => tmps.setIfInBounds t a) (lp .ready).tmps = (ps.toList.zip (encs x).toList).foldl (fun t (p : Tmp × Value) => t.setIfInBounds p.1 p.2) a.tmps := by
      rw [hlp]
      simp only
      rw [← Array.foldl_toList, Array.toList_zip]
    rw [hfold] at hy
    have hs2 : StRep T N ⟨I1, ρ1, W1, nt, nb2, false⟩ I1 ρ1 ⟨setPs t0 (ps.toList.zip (A x)), ofB (Bl pre)⟩ { tmps := (ps.toList.zip (encs x).toList).foldl (fun t (p : Tmp × Value) => t.setIfInBounds p.1 p.2) a.tmps, defers := [] } W1 := by
      refine ⟨k1', htm, ?_, ⟨Marks.nil, fun _ => rfl⟩, Ev.refl _ _ _, fun id p hp => ?_⟩
      · simp only [foldl_size]; rw [hs.nt, h1]
      · have hd := k1'.dom id p hp
        cases id with
        | s i j => exact absurd rfl hd
        | b j =>
          refine ⟨j, ?_, rfl⟩
          have : (Bl pre)[j]? ≠ none := hd
          rw [Ne, List.getElem?_eq_none_iff, hlen pre] at this
          simp only; omega
    refine ⟨(lp .ready).fn, _, (lp .ready).assign, (lp .ready).body, hy, ?_⟩
    rw [show (lp .ready).fn = fn by rw [hlp], show (lp .ready).assign = assign by rw [hlp], show (lp .ready).body = body by rw [hlp]]
    refine roundIn_of_wpIn trivial (wpIn_mono (hbody pre x hM ⟨I1, ρ1, W1, nt, nb2, false⟩ rfl rfl I1 ρ1 _ W1 hs2 (some (w.heap.size + 1)) (by simp [Rrd]) m) ?_)
    rintro ex a2 w2 ⟨st2, I2, ρ2, q2, hs3⟩
    cases ex with
    | normal =>
      have hl2 : w2.heap[w.heap.size + 1]? = some (.loop (lp .ready)) := by
        rw [hs3.ev.frame _ hlt (fun id p hp => hnl id p hp)]; exact hl1
      have hpl2 : ∀ id p, ρ2 id = some p → p.b ≠ w.heap.size + 1 := fun id p hp => by
        rcases hs3.ev.plN id p hp with ⟨id0, p0, g0, e0⟩ | g0
        · rw [← e0]; exact hnl id0 p0 g0
        · have g0' : W1.heap.size ≤ p.b := g0
          omega
      refine ⟨_, run_beginRound hl2 (by rw [hlp]), ?_⟩
      have hs4 : StRep T N ⟨I1, ρ1, W1.putObj (w.heap.size + 1) (.loop (lp .busy)), nt, nb2, false⟩ I2 ρ2 st2 a2 (w2.putObj (w.heap.size + 1) (.loop (lp .busy))) :=
        ⟨hs3.wr.put_other _ hl2 rfl hpl2, hs3.tm, hs3.nt, ⟨by simpa using hs3.df.1.put_other _ hl2, fun h => by cases h⟩, hs3.ev.put_both _ hlt, hs3.eb⟩
      rw [show ({ lp .ready with state := .busy } : Loop) = lp .busy by rw [hlp]]
      refine wpIn_mono (q2 ⟨I1, ρ1, W1.putObj (w.heap.size + 1) (.loop (lp .busy)), nt, nb2, false⟩ rfl rfl I2 ρ2 a2 _ hs4 (some (w.heap.size + 1)) (by simp [Rrd]) m) ?_
      rintro ex a5 w5 ⟨st5, I5, ρ5, q5, hs5⟩
      cases ex with
      | normal =>
        obtain ⟨I6, ρ6, hs6⟩ := q5 ⟨I1, ρ1, W1.putObj (w.heap.size + 1) (.loop (lp .busy)), nt, nb2, false⟩ rfl rfl I5 ρ5 a5 w5 hs5
        have hl5 : w5.heap[w.heap.size + 1]? = some (.loop (lp .busy)) := by
          rw [hs6.ev.frame _ (by simpa using hlt) (fun id p hp => hnl id p hp)]
          exact World.putObj_heap_same hlt
        have hend := run_endRound (P := P) none hl5
        simp only [Option.isNone_none, if_true] at hend
        rw [show ({ lp .busy with state := .ready, pending := none } : Loop) = lp .ready by rw [hlp]] at hend
        have hev6 : Ev I1 ρ1 W1 I6 ρ6 (w5.putObj (w.heap.size + 1) (.loop (lp .ready))) := hs6.ev.put_back hl1
        have hpl6 : ∀ id p, ρ6 id = some p → p.b ≠ w.heap.size + 1 ∧ p.b ≠ w.heap.size := fun id p hp => by
          rcases hev6.plN id p hp with ⟨id0, p0, g0, e0⟩ | g0
          · rw [← e0]; exact k5 id0 p0 g0
          · omega
        have hwr6 : WRep T N I6 ρ6 (ofB (Bl (pre ++ [x]))) (w5.putObj (w.heap.size + 1) (.loop (lp .ready))) := hs6.wr.put_other _ hl5 rfl (fun id p hp => (hpl6 id p hp).1)
        refine ⟨_, _, hend, rfl, ⟨_, ⟨I6, ρ6, hwr6, k2'.trans hev6, ?_, ?_, hpl6, rfl⟩, ?_⟩, ?_, ?_, ?_⟩
        · exact World.putObj_heap_same (Array.getElem?_eq_some_iff.1 hl5).1
        · rw [hev6.frame w.heap.size (by omega) (fun id p hp => (k5 id p hp).2)]; exact hd1
        · rintro b ⟨id, p, hp, rfl⟩
          rcases hev6.plN id p hp with ⟨id0, p0, g0, e0⟩ | g0
          · exact .inl ⟨id0, p0, g0, e0⟩
          · exact .inr g0
        · exact fun b o y hI _ => hwr6.imm b o y (hev6.imm b o y (k2'.imm b o y hI))
        · exact fun b hb hY => hev6.frame b hb (fun id p hp e => hY ⟨id, p, hp, e⟩)
        · exact hev6.size
      | ret => exact q5.elim
      | exit id => exact q5.elim
      | goto t => exact q5.elim
      | panic ch => exact q5.elim
      | outgrown => exact q5.elim
    | ret => exact q2.elim
    | exit id => exact q2.elim
    | goto t => exact q2.elim
    | panic ch => exact q2.elim
    | outgrown => exact q2.elim
  · exact ⟨I, ρ, hw.grown hgr0, (Ev.refl _ _ _).grown hgr0, hL0, hD0, fun id p hp => by have := hw.place_lt hp; omega, rfl⟩
  · rintro ex W2 ⟨⟨v, rfl⟩, xs, Y, Wp, hS, ⟨I1, ρ1, k1, k2, k3, k4, k5, rfl⟩, hgr⟩
    have hl2 := hgr.heap k3
    have hd2 := hgr.heap k4
    have hwr := (k1.grown hgr).put_other (.loop { lp .ready with state := .exhausted }) hl2 rfl (fun id p hp => (k5 id p hp).1)
    have hev2 := (k2.grown hgr).put_other (l := w.heap.size + 1) (.loop { lp .ready with state := .exhausted }) (Nat.le_succ _)
    refine ⟨none, _, ?_, ⟨⟨t0, ofB (Bl xs)⟩, I1, ρ1, hdone xs hS, ⟨hwr, fun k d x hk => ?_, hs.nt, ⟨?_, fun h => by rw [hnd] at h; cases h⟩, hs.ev.trans hev2, hs.eb⟩⟩⟩
    · have := run_endLoop (P := P) hl2 (by rw [hlp]; simp)
      rw [this]
      rw [hlp]
    · obtain ⟨g1, g2⟩ := hs.tm k d x hk
      exact ⟨fun h => (g1 h).mono k2.imm k2.pl, g2⟩
    · obtain ⟨Ds, m1, m2, m3⟩ := hs.df.1.ev hev2
      obtain ⟨Ds', n1, n2, n3⟩ := hs.df.1
      refine ⟨w.heap.size :: Ds, List.nodup_cons.2 ⟨fun hD => ?_, m1⟩, by rw [m2]; rfl, fun D hD => ?_⟩
      · have he : Ds = Ds' := (List.map_inj_right (fun a b hab => by simpa [markOf] using hab)).1 (m2.symm.trans n2)
        subst he
        have := (Array.getElem?_eq_some_iff.1 (n3 _ hD).1).1
        omega
      · simp only [List.mem_cons] at hD
        rcases hD with rfl | hD
        · exact ⟨by rw [World.putObj_heap_other (by omega)]; exact hd2, hs.ev.size, fun id p hp => (k5 id p hp).2⟩
        · exact m3 D hD
end
end Go.Ab

/- What depends on what. -/
set_option autoImplicit false
set_option maxRecDepth 20000
set_option linter.unusedSimpArgs false
set_option linter.unusedVariables false
namespace Go.Ab
open Go.Proofs
theorem conv_rowN {m : Id → Option Ob} {F : Id → Nat} {T : Nat → TI} {e len len' : Nat} {f f' : Bool} {g g' : Nat → AV} (hn : len = len') (hf : f' = true → f = true) (h : ∀ j, j < len' → g j = g' j) : Conv m F T (.row e f len g) (.row e f' len' g') := by
  subst hn; exact conv_rowL hf h
def tchs (f : Bool) (l : List Tch) : AV := .row 70 f l.length (fun i => encTch (l.getD i tch0))
def clampN (n : Int) : Nat := (if n < 0 then 0 else if n > 6 then 6 else n).toNat
theorem clampN_le (n : Int) : clampN n ≤ 6 := by unfold clampN; split <;> (try split) <;> omega
def touchL (x : Evt) : List Tch := (List.range (clampN x.n)).map (tAt x)
theorem touchL_len (x : Evt) : (touchL x).length = clampN x.n := by simp [touchL]
theorem touchL_get {x : Evt} {i : Nat} (h : i < clampN x.n) : (touchL x).getD i tch0 = tAt x i := by simp [touchL, List.getD_eq_getElem?_getD, h]
def clB (x y : Tch) : Bool := x.kind == y.kind && x.num == y.num && (x.wr || y.wr)
def clashB (a b : List Tch) : Bool := a.any fun x => b.any fun y => clB x y
def depB (x y : Evt) : Bool := clashB (touchL x) (touchL y)
theorem clash_yes {a b : List Tch} {i k : Nat} (hi : i < a.length) (hk : k < b.length) (h : clB (a.getD i tch0) (b.getD k tch0) = true) : clashB a b = true := by
  simp only [clashB, List.any_eq_true]
  exact ⟨a[i], List.getElem_mem hi, b[k], List.getElem_mem hk, by simpa [List.getD_eq_getElem?_getD, hi, hk] using h⟩
theorem clash_no {a b : List Tch} (h : ∀ i, i < a.length → ∀ k, k < b.length → clB (a.getD i tch0) (b.getD k tch0) = false) : clashB a b = false := by
  simp only [clashB, List.any_eq_false, List.any_eq_true, not_exists, not_and]
  intro x hx y hy
  obtain ⟨i, hi, rfl⟩ := List.getElem_of_mem hx
  obtain ⟨k, hk, rfl⟩ := List.getElem_of_mem hy
  have := h i hi k hk
  simp [List.getD_eq_getElem?_getD, hi, hk] at this
  simp [this]
theorem touched_ac (x : Evt) : AC Tryz.prog T tysN 121 [.rp 73 (encE x)] [] (tchs false (touchL x)) [] := by
  refine AC_intro hT Tryz.func121 rfl rfl (Nat.le_of_ble_eq_true rfl) ?_
  refine WP.seq ?_
  refine WP.reg hT hE [] rfl ?_ ?_
  · first | trivial | (simp [holdsC, under, slOk, slB, capEq] <;> grind)
  refine WP.seq ?_
  have hcl : (if (if x.n < 6 then x.n else 6) > 0 then (if x.n < 6 then x.n else 6) else (0 : Int)).toNat = clampN x.n := by
    unfold clampN
    congr 1
    split <;> split <;> (try split) <;> omega
  have hcl6 := clampN_le x.n
  refine WP.drw hT hE hM [] rfl ?_ ?_
  · have h0 : (0 : Int) ≤ (if (if x.n < 6 then x.n else 6) > 0 then (if x.n < 6 then x.n else 6) else (0 : Int)) := by split <;> omega
    have h6 : (if (if x.n < 6 then x.n else 6) > 0 then (if x.n < 6 then x.n else 6) else (0 : Int)) ≤ 6 := by split <;> (try split) <;> omega
    simp [holdsC, under, slOk, slB, capEq]
    exact ⟨h0, h6⟩
  refine WP.ret ?_
  change Fin _ _ _ _ _ _ _ _
  refine fin_mk hT [] (ts := [(2, tchs false (touchL x))]) (l := [tchs false (touchL x)]) trivial ⟨⟨rfl, _, rfl, ?_⟩, trivial⟩ trivial rfl rfl rfl
  refine conv_rowN ?_ (fun h => h) (fun j hj => ?_)
  · rw [touchL_len, ← hcl]
    simp only [slB, Option.getD_some, Option.getD_none, Int.sub_zero]
  · rw [touchL_len] at hj
    rw [touchL_get hj]
    show encTch (x.ts.getD ((0 : Int).toNat + j) tch0) = _
    simp [tAt]
theorem clash_ac (f g : Bool) (a b : List Tch) : AC Tryz.prog T tysN 58 [tchs f a, tchs g b] [] (.bool (clashB a b)) [] := by
  refine AC_intro hT Tryz.func58 rfl rfl (Nat.le_of_ble_eq_true rfl) ?_
  refine WP.rowlen 0 rfl (fun hla => ?_)
  refine WP.rowlen 1 rfl (fun hlb => ?_)
  refine WP.seq ?_
  refine WP.reg hT hE [] rfl ?_ ?_
  · first | trivial | (simp [holdsC, under, slOk, slB, capEq] <;> grind)
  refine WP.seq ?_
  refine WP.seq ?_
  refine WP.reg hT hE [] rfl ?_ ?_
  · first | trivial | (simp [holdsC, under, slOk, slB, capEq] <;> grind)
  refine WP.block ?_
  refine WP.loop (α := Nat) (fun i => mkSt [(1, tchs g b), (9, tchs f a), (10, .int a.length), (11, .int i)] []) (fun i => i ≤ a.length ∧ ∀ p, p < i → ∀ q, q < b.length → clB (a.getD p tch0) (b.getD q tch0) = false) (fun i => a.length - i) ?_ ?_
  · refine ⟨0, ?_, ?_⟩
    · exact ⟨Nat.zero_le _, fun p hp => by omega⟩
    · refine Ent.mk hT [] trivial ⟨⟨rfl, _, rfl, by first | exact conv_eq rfl | (refine conv_eq ?_; rw [wrap_id (by omega) (by omega)]; simp; done) | (refine conv_eq ?_; simp; done)⟩, ⟨rfl, _, rfl, by first | exact conv_eq rfl | (refine conv_eq ?_; rw [wrap_id (by omega) (by omega)]; simp; done) | (refine conv_eq ?_; simp; done)⟩, ⟨rfl, _, rfl, by first | exact conv_eq rfl | (refine conv_eq ?_; rw [wrap_id (by omega) (by omega)]; simp; done) | (refine conv_eq ?_; simp; done)⟩, ⟨rfl, _, rfl, by first | exact conv_eq rfl | (refine conv_eq ?_; rw [wrap_id (by omega) (by omega)]; simp; done) | (refine conv_eq ?_; simp; done)⟩, trivial⟩ trivial rfl
  · rintro i ⟨hi, hn⟩
    refine WP.seq ?_
    refine WP.reg hT hE [] rfl ?_ ?_
    · first | trivial | (simp [holdsC, under, slOk, slB, capEq] <;> grind)
    refine WP.seq ?_
    refine WP.cond rfl (fun h2 => ?_) (fun h2 => ?_)
    · have hil : i < a.length := by simpa using h2
      refine WP.skip ?_
      refine WP.seq ?_
      refine WP.block ?_
      refine WP.seq ?_
      refine WP.reg hT hE [] rfl ?_ ?_
      · simp [holdsC, under]; omega
      refine WP.seq ?_
      refine WP.reg hT hE [] rfl ?_ ?_
      · first | trivial | (simp [holdsC, under, slOk, slB, capEq] <;> grind)
      refine WP.block ?_
      refine WP.loop (α := Nat) (fun k => mkSt [(1, tchs g b), (6, .ptr (.s 6 0) 1 0 []), (9, tchs f a), (10, .int a.length), (11, .int i), (15, tchs g b), (16, .int b.length), (17, .int k)] [(.s 6 0, .cells ⟨70, 1, fun _ => encTch (a.getD i tch0), 0⟩)]) (fun k => k ≤ b.length ∧ ∀ q, q < k → clB (a.getD i tch0) (b.getD q tch0) = false) (fun k => b.length - k) ?_ ?_
      · refine ⟨0, ?_, ?_⟩
        · exact ⟨Nat.zero_le _, fun p hp => by omega⟩
        · refine Ent.mk hT [] trivial ⟨⟨rfl, _, rfl, by first | exact conv_eq rfl | (refine conv_eq ?_; rw [wrap_id (by omega) (by omega)]; simp; done) | (refine conv_eq ?_; simp; done)⟩, ⟨rfl, _, rfl, by first | exact conv_eq rfl | (refine conv_eq ?_; rw [wrap_id (by omega) (by omega)]; simp; done) | (refine conv_eq ?_; simp; done)⟩, ⟨rfl, _, rfl, by first | exact conv_eq rfl | (refine conv_eq ?_; rw [wrap_id (by omega) (by omega)]; simp; done) | (refine conv_eq ?_; simp; done)⟩, ⟨rfl, _, rfl, by first | exact conv_eq rfl | (refine conv_eq ?_; rw [wrap_id (by omega) (by omega)]; simp; done) | (refine conv_eq ?_; simp; done)⟩, ⟨rfl, _, rfl, by first | exact conv_eq rfl | (refine conv_eq ?_; rw [wrap_id (by omega) (by omega)]; simp; done) | (refine conv_eq ?_; simp; done)⟩, ⟨rfl, _, rfl, by first | exact conv_eq rfl | (refine conv_eq ?_; rw [wrap_id (by omega) (by omega)]; simp; done) | (refine conv_eq ?_; simp; done)⟩, ⟨rfl, _, rfl, by first | exact conv_eq rfl | (refine conv_eq ?_; rw [wrap_id (by omega) (by omega)]; simp; done) | (refine conv_eq ?_; simp; done)⟩, ⟨rfl, _, rfl, by first | exact conv_eq rfl | (refine conv_eq ?_; rw [wrap_id (by omega) (by omega)]; simp; done) | (refine conv_eq ?_; simp; done)⟩, trivial⟩ ⟨⟨fun _ _ => rfl, .inl ⟨_, rfl, _, _, rfl, Nat.le_refl _, Nat.zero_le _, by first | exact Nat.zero_le _ | omega, fun q hq => by first | exact conv_eq rfl | (obtain rfl : q = 0 := (by simp at hq; exact hq); exact conv_eq rfl)⟩⟩, trivial⟩ rfl
      · rintro k ⟨hk, hn2⟩
        refine WP.seq ?_
        refine WP.reg hT hE [] rfl ?_ ?_
        · first | trivial | (simp [holdsC, under, slOk, slB, capEq] <;> grind)
        refine WP.seq ?_
        refine WP.cond rfl (fun h5 => ?_) (fun h5 => ?_)
        · have hkl : k < b.length := by simpa using h5
          refine WP.skip ?_
          refine WP.seq ?_
          refine WP.block ?_
          refine WP.seq ?_
          refine WP.reg hT hE [] rfl ?_ ?_
          · simp [holdsC, under]; omega
          refine WP.seq ?_
          refine WP.reg hT hE [] rfl ?_ ?_
          · first | trivial | (simp [holdsC, under, slOk, slB, capEq] <;> grind)
          refine WP.cond rfl (fun h7 => ?_) (fun h7 => ?_)
          · have hc : clB (a.getD i tch0) (b.getD k tch0) = true := by
              simp only [bor, band] at h7
              exact h7
            refine WP.seq ?_
            refine WP.reg hT hE [] rfl ?_ ?_
            · first | trivial | (simp [holdsC, under, slOk, slB, capEq] <;> grind)
            refine WP.ret ?_
            change Fin _ _ _ _ _ _ _ _
            exact fin1 hT (by rfl) (clash_yes hil hkl hc).symm
          · have hc : clB (a.getD i tch0) (b.getD k tch0) = false := by
              simp only [bor, band] at h7
              exact h7
            refine WP.skip ?_
            refine WP.reg hT hE [] rfl ?_ ?_
            · first | trivial | (simp [holdsC, under, slOk, slB, capEq] <;> grind)
            refine ⟨k + 1, ?_, ?_, ?_⟩
            · refine ⟨hkl, fun q hq => ?_⟩
              rcases Nat.lt_or_ge q k with h | h
              · exact hn2 q h
              · obtain rfl : q = k := by omega
                exact hc
            · refine Ent.mk hT [] trivial ⟨⟨rfl, _, rfl, by first | exact conv_eq rfl | (refine conv_eq ?_; rw [wrap_id (by omega) (by omega)]; simp; done) | (refine conv_eq ?_; simp; done)⟩, ⟨rfl, _, rfl, by first | exact conv_eq rfl | (refine conv_eq ?_; rw [wrap_id (by omega) (by omega)]; simp; done) | (refine conv_eq ?_; simp; done)⟩, ⟨rfl, _, rfl, by first | exact conv_eq rfl | (refine conv_eq ?_; rw [wrap_id (by omega) (by omega)]; simp; done) | (refine conv_eq ?_; simp; done)⟩, ⟨rfl, _, rfl, by first | exact conv_eq rfl | (refine conv_eq ?_; rw [wrap_id (by omega) (by omega)]; simp; done) | (refine conv_eq ?_; simp; done)⟩, ⟨rfl, _, rfl, by first | exact conv_eq rfl | (refine conv_eq ?_; rw [wrap_id (by omega) (by omega)]; simp; done) | (refine conv_eq ?_; simp; done)⟩, ⟨rfl, _, rfl, by first | exact conv_eq rfl | (refine conv_eq ?_; rw [wrap_id (by omega) (by omega)]; simp; done) | (refine conv_eq ?_; simp; done)⟩, ⟨rfl, _, rfl, by first | exact conv_eq rfl | (refine conv_eq ?_; rw [wrap_id (by omega) (by omega)]; simp; done) | (refine conv_eq ?_; simp; done)⟩, ⟨rfl, _, rfl, by first | exact conv_eq rfl | (refine conv_eq ?_; rw [wrap_id (by omega) (by omega)]; simp; done) | (refine conv_eq ?_; simp; done)⟩, trivial⟩ ⟨⟨fun _ _ => rfl, .inl ⟨_, rfl, _, _, rfl, Nat.le_refl _, Nat.zero_le _, by first | exact Nat.zero_le _ | omega, fun q hq => by first | exact conv_eq rfl | (obtain rfl : q = 0 := (by simp at hq; exact hq); exact conv_eq rfl)⟩⟩, trivial⟩ rfl
            · (try simp only []); first | omega | grind
        · have hkl : k = b.length := by simp at h5; omega
          subst hkl
          refine WP.exit ?_
          refine WP.reg hT hE [] rfl ?_ ?_
          · first | trivial | (simp [holdsC, under, slOk, slB, capEq] <;> grind)
          refine ⟨i + 1, ?_, ?_, ?_⟩
          · refine ⟨hil, fun p hp => ?_⟩
            rcases Nat.lt_or_ge p i with h | h
            · exact hn p h
            · obtain rfl : p = i := by omega
              exact hn2
          · refine Ent.mk hT [] trivial ⟨⟨rfl, _, rfl, by first | exact conv_eq rfl | (refine conv_eq ?_; rw [wrap_id (by omega) (by omega)]; simp; done) | (refine conv_eq ?_; simp; done)⟩, ⟨rfl, _, rfl, by first | exact conv_eq rfl | (refine conv_eq ?_; rw [wrap_id (by omega) (by omega)]; simp; done) | (refine conv_eq ?_; simp; done)⟩, ⟨rfl, _, rfl, by first | exact conv_eq rfl | (refine conv_eq ?_; rw [wrap_id (by omega) (by omega)]; simp; done) | (refine conv_eq ?_; simp; done)⟩, ⟨rfl, _, rfl, by first | exact conv_eq rfl | (refine conv_eq ?_; rw [wrap_id (by omega) (by omega)]; simp; done) | (refine conv_eq ?_; simp; done)⟩, trivial⟩ trivial rfl
          · (try simp only []); first | omega | grind
    · have hil : i = a.length := by simp at h2; omega
      subst hil
      refine WP.exit ?_
      refine WP.seq ?_
      refine WP.reg hT hE [] rfl ?_ ?_
      · first | trivial | (simp [holdsC, under, slOk, slB, capEq] <;> grind)
      refine WP.ret ?_
      change Fin _ _ _ _ _ _ _ _
      exact fin1 hT rfl (clash_no hn).symm
theorem rclash_ac (f g : Bool) (a b : List Tch) : AC Tryz.prog T tysN 87 [tchs f a, tchs g b] [] (.bool (clashB a b)) [] := by
  refine AC_intro hT Tryz.func87 rfl rfl (Nat.le_of_ble_eq_true rfl) ?_
  refine WP.rowlen 0 rfl (fun hla => ?_)
  refine WP.rowlen 1 rfl (fun hlb => ?_)
  refine WP.seq ?_
  refine WP.reg hT hE [] rfl ?_ ?_
  · first | trivial | (simp [holdsC, under, slOk, slB, capEq] <;> grind)
  refine WP.seq ?_
  refine WP.seq ?_
  refine WP.reg hT hE [] rfl ?_ ?_
  · first | trivial | (simp [holdsC, under, slOk, slB, capEq] <;> grind)
  refine WP.block ?_
  refine WP.loop (α := Nat) (fun i => mkSt [(0, tchs f a), (1, tchs g b), (5, .int i)] []) (fun i => i ≤ a.length ∧ ∀ p, p < i → ∀ q, q < b.length → clB (a.getD p tch0) (b.getD q tch0) = false) (fun i => a.length - i) ?_ ?_
  · refine ⟨0, ?_, ?_⟩
    · exact ⟨Nat.zero_le _, fun p hp => by omega⟩
    · refine Ent.mk hT [] trivial ⟨⟨rfl, _, rfl, by first | exact conv_eq rfl | (refine conv_eq ?_; rw [wrap_id (by omega) (by omega)]; simp; done) | (refine conv_eq ?_; simp; done)⟩, ⟨rfl, _, rfl, by first | exact conv_eq rfl | (refine conv_eq ?_; rw [wrap_id (by omega) (by omega)]; simp; done) | (refine conv_eq ?_; simp; done)⟩, ⟨rfl, _, rfl, by first | exact conv_eq rfl | (refine conv_eq ?_; rw [wrap_id (by omega) (by omega)]; simp; done) | (refine conv_eq ?_; simp; done)⟩, trivial⟩ trivial rfl
  · rintro i ⟨hi, hn⟩
    refine WP.seq ?_
    refine WP.seq ?_
    refine WP.reg hT hE [] rfl ?_ ?_
    · first | trivial | (simp [holdsC, under, slOk, slB, capEq] <;> grind)
    refine WP.cond rfl (fun h2 => ?_) (fun h2 => ?_)
    · have hil : i < a.length := by simpa using h2
      refine WP.skip ?_
      refine WP.seq ?_
      refine WP.block ?_
      refine WP.seq ?_
      refine WP.reg hT hE [] rfl ?_ ?_
      · first | trivial | (simp [holdsC, under, slOk, slB, capEq] <;> grind)
      refine WP.block ?_
      refine WP.loop (α := Nat) (fun k => mkSt [(0, tchs f a), (1, tchs g b), (5, .int i), (6, .int k)] []) (fun k => k ≤ b.length ∧ ∀ q, q < k → clB (a.getD i tch0) (b.getD q tch0) = false) (fun k => b.length - k) ?_ ?_
      · refine ⟨0, ?_, ?_⟩
        · exact ⟨Nat.zero_le _, fun p hp => by omega⟩
        · refine Ent.mk hT [] trivial ⟨⟨rfl, _, rfl, by first | exact conv_eq rfl | (refine conv_eq ?_; rw [wrap_id (by omega) (by omega)]; simp; done) | (refine conv_eq ?_; simp; done)⟩, ⟨rfl, _, rfl, by first | exact conv_eq rfl | (refine conv_eq ?_; rw [wrap_id (by omega) (by omega)]; simp; done) | (refine conv_eq ?_; simp; done)⟩, ⟨rfl, _, rfl, by first | exact conv_eq rfl | (refine conv_eq ?_; rw [wrap_id (by omega) (by omega)]; simp; done) | (refine conv_eq ?_; simp; done)⟩, ⟨rfl, _, rfl, by first | exact conv_eq rfl | (refine conv_eq ?_; rw [wrap_id (by omega) (by omega)]; simp; done) | (refine conv_eq ?_; simp; done)⟩, trivial⟩ trivial rfl
      · rintro k ⟨hk, hn2⟩
        refine WP.seq ?_
        refine WP.seq ?_
        refine WP.reg hT hE [] rfl ?_ ?_
        · first | trivial | (simp [holdsC, under, slOk, slB, capEq] <;> grind)
        refine WP.cond rfl (fun h5 => ?_) (fun h5 => ?_)
        · have hkl : k < b.length := by simpa using h5
          refine WP.skip ?_
          refine WP.seq ?_
          refine WP.block ?_
          refine WP.seq ?_
          refine WP.drw hT hE hM [] rfl ?_ ?_
          · simp [holdsC, under]
            exact ⟨⟨⟨⟨⟨⟨hil, hkl⟩, fun _ => hil⟩, fun _ => hkl⟩, fun _ _ => hil⟩, fun _ _ _ => hkl⟩, fun p q r => ⟨⟨p, q⟩, r⟩⟩
          refine WP.cond rfl (fun h7 => ?_) (fun h7 => ?_)
          · have hc : clB (a.getD i tch0) (b.getD k tch0) = true := by
              simp only [bor, band] at h7
              exact h7
            refine WP.seq ?_
            refine WP.reg hT hE [] rfl ?_ ?_
            · first | trivial | (simp [holdsC, under, slOk, slB, capEq] <;> grind)
            refine WP.ret ?_
            change Fin _ _ _ _ _ _ _ _
            exact fin1 hT (by rfl) (clash_yes hil hkl hc).symm
          · have hc : clB (a.getD i tch0) (b.getD k tch0) = false := by
              simp only [bor, band] at h7
              exact h7
            refine WP.skip ?_
            refine WP.reg hT hE [] rfl ?_ ?_
            · first | trivial | (simp [holdsC, under, slOk, slB, capEq] <;> grind)
            refine ⟨k + 1, ?_, ?_, ?_⟩
            · refine ⟨hkl, fun q hq => ?_⟩
              rcases Nat.lt_or_ge q k with h | h
              · exact hn2 q h
              · obtain rfl : q = k := by omega
                exact hc
            · refine Ent.mk hT [] trivial ⟨⟨rfl, _, rfl, by first | exact conv_eq rfl | (refine conv_eq ?_; rw [wrap_id (by omega) (by omega)]; simp; done) | (refine conv_eq ?_; simp; done)⟩, ⟨rfl, _, rfl, by first | exact conv_eq rfl | (refine conv_eq ?_; rw [wrap_id (by omega) (by omega)]; simp; done) | (refine conv_eq ?_; simp; done)⟩, ⟨rfl, _, rfl, by first | exact conv_eq rfl | (refine conv_eq ?_; rw [wrap_id (by omega) (by omega)]; simp; done) | (refine conv_eq ?_; simp; done)⟩, ⟨rfl, _, rfl, by first | exact conv_eq rfl | (refine conv_eq ?_; rw [wrap_id (by omega) (by omega)]; simp; done) | (refine conv_eq ?_; simp; done)⟩, trivial⟩ trivial rfl
            · (try simp only []); first | omega | grind
        · have hkl : k = b.length := by simp at h5; omega
          subst hkl
          refine WP.exit ?_
          refine WP.reg hT hE [] rfl ?_ ?_
          · first | trivial | (simp [holdsC, under, slOk, slB, capEq] <;> grind)
          refine ⟨i + 1, ?_, ?_, ?_⟩
          · refine ⟨hil, fun p hp => ?_⟩
            rcases Nat.lt_or_ge p i with h | h
            · exact hn p h
            · obtain rfl : p = i := by omega
              exact hn2
          · refine Ent.mk hT [] trivial ⟨⟨rfl, _, rfl, by first | exact conv_eq rfl | (refine conv_eq ?_; rw [wrap_id (by omega) (by omega)]; simp; done) | (refine conv_eq ?_; simp; done)⟩, ⟨rfl, _, rfl, by first | exact conv_eq rfl | (refine conv_eq ?_; rw [wrap_id (by omega) (by omega)]; simp; done) | (refine conv_eq ?_; simp; done)⟩, ⟨rfl, _, rfl, by first | exact conv_eq rfl | (refine conv_eq ?_; rw [wrap_id (by omega) (by omega)]; simp; done) | (refine conv_eq ?_; simp; done)⟩, trivial⟩ trivial rfl
          · (try simp only []); first | omega | grind
    · have hil : i = a.length := by simp at h2; omega
      subst hil
      refine WP.exit ?_
      refine WP.seq ?_
      refine WP.reg hT hE [] rfl ?_ ?_
      · first | trivial | (simp [holdsC, under, slOk, slB, capEq] <;> grind)
      refine WP.ret ?_
      change Fin _ _ _ _ _ _ _ _
      exact fin1 hT rfl (clash_no hn).symm
theorem dep_ac (x y : Evt) : AC Tryz.prog T tysN 76 [encE x, encE y] [] (.bool (depB x y)) [] := by
  refine AC_intro hT Tryz.func76 rfl rfl (Nat.le_of_ble_eq_true rfl) ?_
  refine WP.seq ?_
  refine WP.reg hT hE [] rfl ?_ ?_
  · first | trivial | (simp [holdsC, under, slOk, slB, capEq] <;> grind)
  refine WP.seq ?_
  refine WP.ent (st' := mkSt [(2, .rp 73 (encE x)), (3, .rp 73 (encE y))] []) ?_ ?_
  · refine Ent.mk hT [(.s 2 0, 1), (.s 3 0, 1)] ⟨⟨_, rfl, Nat.le_refl _⟩, ⟨_, rfl, Nat.le_refl _⟩, trivial⟩ ⟨⟨rfl, _, rfl, conv_rpe rfl rfl (by decide) rfl rfl (noIds_E _)⟩, ⟨rfl, _, rfl, conv_rpe rfl rfl (by decide) rfl rfl (noIds_E _)⟩, trivial⟩ trivial rfl
  refine WP.reg hT hE [CG.pure (tchs false (touchL x)), CG.pure (tchs false (touchL y)), CG.pure (.bool (depB x y))] rfl ?_ ?_
  · exact ⟨⟨touched_ac x, touched_ac y⟩, clash_ac false false _ _⟩
  refine WP.ret ?_
  change Fin _ _ _ _ _ _ _ _
  exact fin1 hT rfl rfl
theorem take_succ {α : Type} {l : List α} {i : Nat} {d : α} (h : i < l.length) : l.take (i + 1) = l.take i ++ [l.getD i d] := by
  rw [List.take_add_one]
  simp [List.getD_eq_getElem?_getD, h]
theorem okIds_tch (ids : List Id) (c : Tch) : okIds ids (encTch c) = true := okIds_agg (fun i hi => by match i, hi with | 0, _ | 1, _ | 2, _ => rfl)
theorem noIds_tch (c : Tch) : noIds (encTch c) = true := noIds_agg (fun i hi => by match i, hi with | 0, _ | 1, _ | 2, _ => rfl)
abbrev obT (l : List Tch) : Ob := cellsL 70 encTch tch0 l
theorem of_ac (x : Evt) : AC Tryz.prog T tysN 88 [encE x] [] (tchs false (touchL x)) [] := by
  refine AC_intro hT Tryz.func88 rfl rfl (Nat.le_of_ble_eq_true rfl) ?_
  refine WP.seq ?_
  refine WP.reg hT hE [] rfl ?_ ?_
  · first | trivial | (simp [holdsC, under, slOk, slB, capEq] <;> grind)
  refine WP.seq ?_
  refine WP.reg hT hE [] rfl ?_ ?_
  · first | trivial | (simp [holdsC, under, slOk, slB, capEq] <;> grind)
  refine WP.seq ?_
  refine WP.seq ?_
  refine WP.reg hT hE [] rfl ?_ ?_
  · first | trivial | (simp [holdsC, under, slOk, slB, capEq] <;> grind)
  refine WP.block ?_
  refine WP.loop (α := Nat) (fun i => mkSt [(1, .rp 73 (encE x)), (3, .own (.s 21 0) i 0 i none), (4, .int i)] [(.s 21 0, obT ((touchL x).take i))]) (fun i => i ≤ clampN x.n) (fun i => 6 - i) ?_ ?_
  · refine ⟨0, ?_, ?_⟩
    · exact Nat.zero_le _
    · refine Ent.mk hT [(.s 1 0, 1)] ⟨⟨_, rfl, Nat.le_refl _⟩, trivial⟩ ⟨⟨rfl, _, rfl, conv_rpe rfl rfl (Nat.lt_succ_self 0) rfl rfl (noIds_E _)⟩, ⟨rfl, _, rfl, conv_nil_own⟩, ⟨rfl, _, rfl, by first | exact conv_eq rfl | (refine conv_eq ?_; rw [wrap_id (by omega) (by omega)]; simp; done) | (refine conv_eq ?_; simp; done)⟩, trivial⟩ ⟨⟨fun _ _ => okIds_tch _ _, .inr ⟨rfl, 70, _, rfl, by decide⟩⟩, trivial⟩ rfl
  · rintro i hi
    have h6 := clampN_le x.n
    refine WP.seq ?_
    refine WP.seq ?_
    refine WP.reg hT hE [] rfl ?_ ?_
    · first | trivial | (simp [holdsC, under, slOk, slB, capEq] <;> grind)
    refine WP.cond rfl (fun h3 => ?_) (fun h3 => ?_)
    · have hb : (i : Int) < 6 ∧ (i : Int) < x.n := by
        have e : (bif decide ((i : Int) < 6) then decide ((i : Int) < x.n) else false) = true := h3
        rw [band] at e
        simpa using e
      have hil : i < clampN x.n := by unfold clampN; split <;> (try split) <;> omega
      have hll : ((touchL x).take i).length = i := by rw [List.length_take, touchL_len]; omega
      refine WP.skip ?_
      refine WP.seq ?_
      refine WP.block ?_
      refine WP.reg hT hE [] rfl ?_ ?_
      · have hbt : (T 70).bytes = 24 := rfl
        simp [holdsC, under, hbt, hll]
        omega
      refine WP.reg hT hE [] rfl ?_ ?_
      · first | trivial | (simp [holdsC, under, slOk, slB, capEq] <;> grind)
      refine ⟨i + 1, ?_, ?_, ?_⟩
      · exact hil
      · refine Ent.mk hT [] trivial ⟨⟨rfl, _, rfl, by first | exact conv_eq rfl | (refine conv_eq ?_; rw [wrap_id (by omega) (by omega)]; simp; done) | (refine conv_eq ?_; simp; done)⟩, ⟨rfl, _, rfl, by first | exact conv_eq rfl | (refine conv_eq ?_; rw [wrap_id (by omega) (by omega)]; simp; done) | (refine conv_eq ?_; simp; done)⟩, ⟨rfl, _, rfl, by first | exact conv_eq rfl | (refine conv_eq ?_; rw [wrap_id (by omega) (by omega)]; simp; done) | (refine conv_eq ?_; simp; done)⟩, trivial⟩ ⟨ob_list (okIds_tch _) rfl rfl (by simp only [hll, List.length_take, touchL_len]; omega) rfl rfl (by rw [take_succ (d := tch0) (by rw [touchL_len]; exact hil)]; exact appL (l := (touchL x).take i) (x := (touchL x).getD i tch0) (z := (T 70).zero) hll.symm (by rw [touchL_get hil]; rfl) (fun q hq => rfl)), trivial⟩ rfl
      · (try simp only []); first | omega | grind
    · have hil : i = clampN x.n := by
        have e : (bif decide ((i : Int) < 6) then decide ((i : Int) < x.n) else false) = false := h3
        rw [band] at e
        simp at e
        have : ¬ i < clampN x.n := by unfold clampN; split <;> (try split) <;> omega
        omega
      have htk : (touchL x).take i = touchL x := List.take_of_length_le (by rw [touchL_len]; omega)
      refine WP.exit ?_
      refine WP.seq ?_
      refine WP.reg hT hE [] rfl ?_ ?_
      · first | trivial | (simp [holdsC, under, slOk, slB, capEq] <;> grind)
      refine WP.ret ?_
      change Fin _ _ _ _ _ _ _ _
      rw [htk]
      refine fin_mk hT [(.s 21 0, i)] (ts := [(2, tchs false (touchL x))]) (l := [tchs false (touchL x)]) ⟨⟨_, by rfl, by rw [touchL_len]; omega⟩, trivial⟩ ⟨⟨rfl, _, by rfl, ?_⟩, trivial⟩ trivial (by rfl) (by rfl) (by rfl)
      have hlen : (touchL x).length = i := by rw [touchL_len, hil]
      rw [tchs, hlen]
      exact conv_row (by rfl) (by exact hlen) rfl (fun h => by cases h) (by simp [lookF, idbeq_self]) (fun j hj => by rw [Nat.zero_add]; exact ⟨noIds_tch _, AEq.refl _⟩)
theorem rdep_ac (x y : Evt) : AC Tryz.prog T tysN 36 [encE x, encE y] [] (.bool (depB x y)) [] := by
  refine AC_intro hT Tryz.func36 rfl rfl (Nat.le_of_ble_eq_true rfl) ?_
  refine WP.seq ?_
  refine WP.reg hT hE [] rfl ?_ ?_
  · first | trivial | (simp [holdsC, under, slOk, slB, capEq] <;> grind)
  refine WP.seq ?_
  refine WP.drw hT hE hM [CG.pure (tchs false (touchL x)), CG.pure (tchs false (touchL y)), CG.pure (.bool (depB x y))] rfl ?_ ?_
  · exact ⟨⟨⟨⟨rfl, of_ac x⟩, rfl⟩, of_ac y⟩, rclash_ac false false _ _⟩
  refine WP.ret ?_
  change Fin _ _ _ _ _ _ _ _
  exact fin1 hT rfl rfl
end Go.Ab


/- Clocks. -/
set_option autoImplicit false
set_option maxRecDepth 20000
set_option linter.unusedSimpArgs false
set_option linter.unusedVariables false
namespace Go.Ab
open Go.Proofs
def encClk (c : List Int) : AV := arrI 106 6 .i64 c
def zeroC : List Int := [0, 0, 0, 0, 0, 0]
def okC (c : List Int) : Prop := c.length = 6 ∧ ∀ i, i < 6 → 0 ≤ c.getD i 0 ∧ c.getD i 0 ≤ 1073741824
def clks (f : Bool) (l : List (List Int)) : AV := .row 106 f l.length (fun i => encClk (l.getD i zeroC))
def mx (x y : Int) : Int := if y > x then y else x
def mixC (a b : List Int) (i : Nat) : List Int := (List.range 6).map fun q => if q < i then mx (a.getD q 0) (b.getD q 0) else a.getD q 0
def joinC (a b : List Int) : List Int := mixC a b 6
def tickC (a : List Int) (g : Nat) : List Int := a.set g (a.getD g 0 + 1)
theorem mixC_len (a b : List Int) (i : Nat) : (mixC a b i).length = 6 := by simp [mixC]
theorem mixC_get {a b : List Int} {i q : Nat} (h : q < 6) : (mixC a b i).getD q 0 = if q < i then mx (a.getD q 0) (b.getD q 0) else a.getD q 0 := by simp [mixC, List.getD_eq_getElem?_getD, h]
theorem mixC_zero {a b : List Int} (h : a.length = 6) : mixC a b 0 = a := by
  refine List.ext_getElem (by simp [mixC, h]) (fun q h1 h2 => ?_)
  simp [mixC, List.getD_eq_getElem?_getD, h2]
theorem mixC_set {a b : List Int} {i : Nat} : (mixC a b i).set i (mx ((mixC a b i).getD i 0) (b.getD i 0)) = mixC a b (i + 1) := by
  refine List.ext_getElem (by simp [mixC]) (fun q h1 h2 => ?_)
  have hq : q < 6 := by simpa [mixC] using h2
  rw [List.getElem_set]
  by_cases e : i = q
  · subst e
    rw [if_pos rfl, mixC_get hq, if_neg (Nat.lt_irrefl _)]
    simp [mixC]
  · rw [if_neg e]
    simp only [mixC, List.getElem_map, List.getElem_range]
    by_cases h : q < i
    · rw [if_pos h, if_pos (by omega)]
    · rw [if_neg h, if_neg (by omega)]
theorem noIds_clk (c : List Int) : noIds (encClk c) = true := noIds_arrI
theorem okIds_clk (ids : List Id) (c : List Int) : okIds ids (encClk c) = true := okIds_agg (fun _ _ => rfl)
theorem greater_ac (x y : Int) : AC Tryz.prog T tysN 104 [.int x, .int y] [] (.int (mx x y)) [] := by
  refine AC_intro hT Tryz.func104 rfl rfl (Nat.le_of_ble_eq_true rfl) ?_
  refine WP.seq ?_
  refine WP.reg hT hE [] rfl ?_ ?_
  · first | trivial | (simp [holdsC, under, slOk, slB, capEq] <;> grind)
  refine WP.seq ?_
  refine WP.reg hT hE [] rfl ?_ ?_
  · first | trivial | (simp [holdsC, under, slOk, slB, capEq] <;> grind)
  refine WP.ret ?_
  change Fin _ _ _ _ _ _ _ _
  exact finI hT (by rfl) rfl
theorem ccheck_ac (c : List Int) (h : okC c) : AC Tryz.prog T tysN 105 [encClk c] [] (.int 0) [] := by
  refine AC_intro hT Tryz.func105 rfl rfl (Nat.le_of_ble_eq_true rfl) ?_
  refine WP.seq ?_
  refine WP.reg hT hE [] rfl ?_ ?_
  · first | trivial | (simp [holdsC, under, slOk, slB, capEq] <;> grind)
  refine WP.seq ?_
  refine WP.seq ?_
  refine WP.reg hT hE [] rfl ?_ ?_
  · first | trivial | (simp [holdsC, under, slOk, slB, capEq] <;> grind)
  refine WP.block ?_
  refine WP.loop (α := Nat) (fun i => mkSt [(5, encClk c), (6, .int i)] []) (fun i => i ≤ 6) (fun i => 6 - i) ?_ ?_
  · refine ⟨0, ?_, ?_⟩
    · exact Nat.zero_le _
    · refine Ent.mk hT [] trivial ⟨⟨rfl, _, rfl, by first | exact conv_eq rfl | (refine conv_eq ?_; rw [wrap_id (by omega) (by omega)]; simp; done) | (refine conv_eq ?_; simp; done)⟩, ⟨rfl, _, rfl, by first | exact conv_eq rfl | (refine conv_eq ?_; rw [wrap_id (by omega) (by omega)]; simp; done) | (refine conv_eq ?_; simp; done)⟩, trivial⟩ trivial rfl
  · rintro i hi
    refine WP.seq ?_
    refine WP.reg hT hE [] rfl ?_ ?_
    · first | trivial | (simp [holdsC, under, slOk, slB, capEq] <;> grind)
    refine WP.seq ?_
    refine WP.cond rfl (fun h2 => ?_) (fun h2 => ?_)
    · have hil : i < 6 := by simp at h2; omega
      have hc := h.2 i hil
      refine WP.skip ?_
      refine WP.seq ?_
      refine WP.block ?_
      refine WP.seq ?_
      refine WP.reg hT hE [] rfl ?_ ?_
      · simp [holdsC, under]; omega
      refine WP.seq ?_
      refine WP.reg hT hE [] rfl ?_ ?_
      · first | trivial | (simp [holdsC, under, slOk, slB, capEq] <;> grind)
      refine WP.cond rfl (fun h4 => ?_) (fun h4 => ?_)
      · exfalso
        have e : (bif decide (c.getD (i : Int).toNat 0 < 0) then true else decide (c.getD (i : Int).toNat 0 > 1073741824)) = true := h4
        rw [bor, Bool.or_eq_true, decide_eq_true_eq, decide_eq_true_eq] at e
        rw [Int.toNat_natCast] at e
        omega
      · refine WP.skip ?_
        refine WP.reg hT hE [] rfl ?_ ?_
        · first | trivial | (simp [holdsC, under, slOk, slB, capEq] <;> grind)
        refine ⟨i + 1, ?_, ?_, ?_⟩
        · exact hil
        · refine Ent.mk hT [] trivial ⟨⟨rfl, _, rfl, by first | exact conv_eq rfl | (refine conv_eq ?_; rw [wrap_id (by omega) (by omega)]; simp; done) | (refine conv_eq ?_; simp; done)⟩, ⟨rfl, _, rfl, by first | exact conv_eq rfl | (refine conv_eq ?_; rw [wrap_id (by omega) (by omega)]; simp; done) | (refine conv_eq ?_; simp; done)⟩, trivial⟩ trivial rfl
        · (try simp only []); first | omega | grind
    · refine WP.exit ?_
      refine WP.seq ?_
      refine WP.reg hT hE [] rfl ?_ ?_
      · first | trivial | (simp [holdsC, under, slOk, slB, capEq] <;> grind)
      refine WP.ret ?_
      change Fin _ _ _ _ _ _ _ _
      exact finI hT (by rfl) rfl
def clk2 (a b : List Int) : AV := clks true [a, b]
theorem call_ac (f : Bool) (l : List (List Int)) (h : ∀ c ∈ l, okC c) : AC Tryz.prog T tysN 102 [clks f l] [] (.int 0) [] := by
  refine AC_intro hT Tryz.func102 rfl rfl (Nat.le_of_ble_eq_true rfl) ?_
  refine WP.rowlen 0 rfl (fun hl => ?_)
  refine WP.seq ?_
  refine WP.reg hT hE [] rfl ?_ ?_
  · first | trivial | (simp [holdsC, under, slOk, slB, capEq] <;> grind)
  refine WP.seq ?_
  refine WP.seq ?_
  refine WP.reg hT hE [] rfl ?_ ?_
  · first | trivial | (simp [holdsC, under, slOk, slB, capEq] <;> grind)
  refine WP.block ?_
  refine WP.loop (α := Nat) (fun i => mkSt [(6, clks f l), (7, .int l.length), (8, .int i)] []) (fun i => i ≤ l.length) (fun i => l.length - i) ?_ ?_
  · refine ⟨0, ?_, ?_⟩
    · exact Nat.zero_le _
    · refine Ent.mk hT [] trivial ⟨⟨rfl, _, rfl, by first | exact conv_eq rfl | (refine conv_eq ?_; rw [wrap_id (by omega) (by omega)]; simp; done) | (refine conv_eq ?_; simp; done)⟩, ⟨rfl, _, rfl, by first | exact conv_eq rfl | (refine conv_eq ?_; rw [wrap_id (by omega) (by omega)]; simp; done) | (refine conv_eq ?_; simp; done)⟩, ⟨rfl, _, rfl, by first | exact conv_eq rfl | (refine conv_eq ?_; rw [wrap_id (by omega) (by omega)]; simp; done) | (refine conv_eq ?_; simp; done)⟩, trivial⟩ trivial rfl
  · rintro i hi
    refine WP.seq ?_
    refine WP.reg hT hE [] rfl ?_ ?_
    · first | trivial | (simp [holdsC, under, slOk, slB, capEq] <;> grind)
    refine WP.seq ?_
    refine WP.cond rfl (fun h2 => ?_) (fun h2 => ?_)
    · have hil : i < l.length := by simpa using h2
      have hok : okC (l.getD i zeroC) := h _ (by simp [List.getD_eq_getElem?_getD, hil])
      refine WP.skip ?_
      refine WP.seq ?_
      refine WP.block ?_
      refine WP.seq ?_
      refine WP.reg hT hE [] rfl ?_ ?_
      · simp [holdsC, under]; omega
      refine WP.seq ?_
      refine WP.reg hT hE [CG.pure (.int 0)] rfl ?_ ?_
      · exact ⟨rfl, ccheck_ac _ hok⟩
      refine WP.seq ?_
      refine WP.reg hT hE [] rfl ?_ ?_
      · first | trivial | (simp [holdsC, under, slOk, slB, capEq] <;> grind)
      refine WP.cond rfl (fun h5 => ?_) (fun h5 => ?_)
      · exfalso
        simp at h5
      · refine WP.skip ?_
        refine WP.reg hT hE [] rfl ?_ ?_
        · first | trivial | (simp [holdsC, under, slOk, slB, capEq] <;> grind)
        refine ⟨i + 1, ?_, ?_, ?_⟩
        · exact hil
        · refine Ent.mk hT [] trivial ⟨⟨rfl, _, rfl, by first | exact conv_eq rfl | (refine conv_eq ?_; rw [wrap_id (by omega) (by omega)]; simp; done) | (refine conv_eq ?_; simp; done)⟩, ⟨rfl, _, rfl, by first | exact conv_eq rfl | (refine conv_eq ?_; rw [wrap_id (by omega) (by omega)]; simp; done) | (refine conv_eq ?_; simp; done)⟩, ⟨rfl, _, rfl, by first | exact conv_eq rfl | (refine conv_eq ?_; rw [wrap_id (by omega) (by omega)]; simp; done) | (refine conv_eq ?_; simp; done)⟩, trivial⟩ trivial rfl
        · (try simp only []); first | omega | grind
    · refine WP.exit ?_
      refine WP.seq ?_
      refine WP.reg hT hE [] rfl ?_ ?_
      · first | trivial | (simp [holdsC, under, slOk, slB, capEq] <;> grind)
      refine WP.ret ?_
      change Fin _ _ _ _ _ _ _ _
      exact finI hT (by rfl) rfl
theorem each_ac (a b : List Int) (ha : a.length = 6) (hb : b.length = 6) : AC Tryz.prog T tysN 103 [encClk a, encClk b, .clo 104 []] [] (encClk (joinC a b)) [] := by
  refine AC_intro hT Tryz.func103 rfl rfl (Nat.le_of_ble_eq_true rfl) ?_
  refine WP.seq ?_
  refine WP.reg hT hE [] rfl ?_ ?_
  · first | trivial | (simp [holdsC, under, slOk, slB, capEq] <;> grind)
  refine WP.seq ?_
  refine WP.seq ?_
  refine WP.reg hT hE [] rfl ?_ ?_
  · first | trivial | (simp [holdsC, under, slOk, slB, capEq] <;> grind)
  refine WP.block ?_
  refine WP.loop (α := Nat) (fun i => mkSt [(2, .clo 104 []), (3, .ptr (.s 3 0) 1 0 []), (4, .ptr (.s 4 0) 1 0 []), (6, .ptr (.s 6 0) 1 0 []), (8, .int i)] [(.s 3 0, .cells ⟨106, 1, fun _ => encClk (mixC a b i), 0⟩), (.s 4 0, .cells ⟨106, 1, fun _ => encClk b, 0⟩), (.s 6 0, .cells ⟨106, 1, fun _ => encClk zeroC, 0⟩)]) (fun i => i ≤ 6) (fun i => 6 - i) ?_ ?_
  · refine ⟨0, ?_, ?_⟩
    · exact Nat.zero_le _
    · refine Ent.mk hT [] trivial ⟨⟨rfl, _, rfl, by first | exact conv_eq rfl | (refine conv_eq ?_; rw [wrap_id (by omega) (by omega)]; simp; done) | (refine conv_eq ?_; simp; done)⟩, ⟨rfl, _, rfl, by first | exact conv_eq rfl | (refine conv_eq ?_; rw [wrap_id (by omega) (by omega)]; simp; done) | (refine conv_eq ?_; simp; done)⟩, ⟨rfl, _, rfl, by first | exact conv_eq rfl | (refine conv_eq ?_; rw [wrap_id (by omega) (by omega)]; simp; done) | (refine conv_eq ?_; simp; done)⟩, ⟨rfl, _, rfl, by first | exact conv_eq rfl | (refine conv_eq ?_; rw [wrap_id (by omega) (by omega)]; simp; done) | (refine conv_eq ?_; simp; done)⟩, ⟨rfl, _, rfl, by first | exact conv_eq rfl | (refine conv_eq ?_; rw [wrap_id (by omega) (by omega)]; simp; done) | (refine conv_eq ?_; simp; done)⟩, trivial⟩ ⟨⟨fun _ _ => okIds_clk _ _, .inl ⟨_, rfl, _, _, rfl, Nat.le_refl _, Nat.zero_le _, Nat.zero_le _, fun q hq => conv_eq (by rw [mixC_zero ha])⟩⟩, ⟨fun _ _ => okIds_clk _ _, .inl ⟨_, rfl, _, _, rfl, Nat.le_refl _, Nat.zero_le _, Nat.zero_le _, fun q hq => conv_eq rfl⟩⟩, ⟨fun _ _ => okIds_clk _ _, .inl ⟨_, rfl, _, _, rfl, Nat.le_refl _, Nat.zero_le _, Nat.zero_le _, fun q hq => conv_eq (agg_ext (fun i => by match i with | 0 | 1 | 2 | 3 | 4 | 5 => rfl | i + 6 => rfl))⟩⟩, trivial⟩ rfl
  · rintro i hi
    refine WP.seq ?_
    refine WP.reg hT hE [] rfl ?_ ?_
    · first | trivial | (simp [holdsC, under, slOk, slB, capEq] <;> grind)
    refine WP.seq ?_
    refine WP.cond rfl (fun h2 => ?_) (fun h2 => ?_)
    · have hil : i < 6 := by simp at h2; omega
      refine WP.skip ?_
      refine WP.seq ?_
      refine WP.block ?_
      refine WP.seq ?_
      refine WP.reg hT hE [] rfl ?_ ?_
      · first | trivial | (simp [holdsC, under, slOk, slB, capEq] <;> grind)
      refine WP.drw hT hE hM [CG.pure (.int (mx ((mixC a b i).getD i 0) (b.getD i 0)))] rfl ?_ ?_
      · have hgr := greater_ac ((mixC a b i).getD i 0) (b.getD i 0)
        simp at hgr
        simp [holdsC, under, CG.pure]
        exact ⟨⟨by omega, hgr⟩, by omega⟩
      refine WP.reg hT hE [] rfl ?_ ?_
      · first | trivial | (simp [holdsC, under, slOk, slB, capEq] <;> grind)
      refine ⟨i + 1, ?_, ?_, ?_⟩
      · exact hil
      · refine Ent.mk hT [] trivial ⟨⟨rfl, _, rfl, by first | exact conv_eq rfl | (refine conv_eq ?_; rw [wrap_id (by omega) (by omega)]; simp; done) | (refine conv_eq ?_; simp; done)⟩, ⟨rfl, _, rfl, by first | exact conv_eq rfl | (refine conv_eq ?_; rw [wrap_id (by omega) (by omega)]; simp; done) | (refine conv_eq ?_; simp; done)⟩, ⟨rfl, _, rfl, by first | exact conv_eq rfl | (refine conv_eq ?_; rw [wrap_id (by omega) (by omega)]; simp; done) | (refine conv_eq ?_; simp; done)⟩, ⟨rfl, _, rfl, by first | exact conv_eq rfl | (refine conv_eq ?_; rw [wrap_id (by omega) (by omega)]; simp; done) | (refine conv_eq ?_; simp; done)⟩, ⟨rfl, _, rfl, by first | exact conv_eq rfl | (refine conv_eq ?_; rw [wrap_id (by omega) (by omega)]; simp; done) | (refine conv_eq ?_; simp; done)⟩, trivial⟩ ⟨⟨fun _ _ => okIds_clk _ _, .inl ⟨_, rfl, _, _, rfl, Nat.le_refl _, Nat.zero_le _, Nat.zero_le _, fun q hq => by (obtain rfl : q = 0 := (by simp at hq; exact hq)); exact conv_eq ((arrI_put (l := mixC a b i) (i := i) (by rw [mixC_len]; exact hil)).trans (congrArg (arrI 106 6 .i64) mixC_set))⟩⟩, ⟨fun _ _ => okIds_clk _ _, .inl ⟨_, rfl, _, _, rfl, Nat.le_refl _, Nat.zero_le _, Nat.zero_le _, fun q hq => conv_eq rfl⟩⟩, ⟨fun _ _ => okIds_clk _ _, .inl ⟨_, rfl, _, _, rfl, Nat.le_refl _, Nat.zero_le _, Nat.zero_le _, fun q hq => conv_eq rfl⟩⟩, trivial⟩ rfl
      · (try simp only []); first | omega | grind
    · have hil : i = 6 := by simp at h2; omega
      subst hil
      refine WP.exit ?_
      refine WP.seq ?_
      refine WP.reg hT hE [] rfl ?_ ?_
      · first | trivial | (simp [holdsC, under, slOk, slB, capEq] <;> grind)
      refine WP.ret ?_
      change Fin _ _ _ _ _ _ _ _
      refine fin_mk hT [(.s 6 0, 1)] (ts := [(6, .rp 106 (encClk (joinC a b)))]) (l := [encClk (joinC a b)]) ⟨⟨_, rfl, Nat.le_refl _⟩, trivial⟩ ⟨⟨rfl, _, rfl, ?_⟩, trivial⟩ trivial rfl rfl rfl
      exact conv_rpe rfl rfl (by decide) rfl rfl (noIds_clk _)
theorem join_ac (a b : List Int) (ha : okC a) (hb : okC b) : AC Tryz.prog T tysN 59 [encClk a, encClk b] [] (.tup [encClk (joinC a b), .int 0]) [] := by
  refine AC_intro hT Tryz.func59 rfl rfl (Nat.le_of_ble_eq_true rfl) ?_
  refine WP.seq ?_
  refine WP.reg hT hE [] rfl ?_ ?_
  · first | trivial | (simp [holdsC, under, slOk, slB, capEq] <;> grind)
  refine WP.seq ?_
  refine WP.seq ?_
  refine WP.reg hT hE [CG.pure (.int 0)] rfl ?_ ?_
  · have := call_ac true [a, b] (fun c hc => by simp at hc; rcases hc with rfl | rfl <;> assumption)
    simp [holdsC, under, CG.pure]
    refine AC.conv hT this ?_
    exact ⟨_, _, rfl, conv_rowL (fun h => h) (fun j hj => by match j, hj with | 0, _ => rfl | 1, _ => rfl), rfl⟩
  refine WP.seq ?_
  refine WP.reg hT hE [] rfl ?_ ?_
  · first | trivial | (simp [holdsC, under, slOk, slB, capEq] <;> grind)
  refine WP.cond rfl (fun h2 => ?_) (fun h2 => ?_)
  · exfalso
    simp at h2
  · refine WP.skip ?_
    refine WP.seq ?_
    refine WP.reg hT hE [CG.pure (encClk (joinC a b))] rfl ?_ ?_
    · simp [holdsC, under, CG.pure]
      exact each_ac a b ha.1 hb.1
    refine WP.ret ?_
    change Fin _ _ _ _ _ _ _ _
    refine fin_mk hT [(.s 4 0, 1)] (ts := [(4, .rp 106 (encClk (joinC a b))), (5, .int 0)]) (l := [encClk (joinC a b), .int 0]) ⟨⟨_, rfl, Nat.le_refl _⟩, trivial⟩ ⟨⟨rfl, _, rfl, ?_⟩, ⟨rfl, _, rfl, conv_eq rfl⟩, trivial⟩ trivial rfl rfl rfl
    exact conv_rpe rfl rfl (by decide) rfl rfl (noIds_clk _)
theorem tick_ac (a : List Int) (g : Int) (ha : okC a) (hg : 0 ≤ g ∧ g < 6) (hm : a.getD g.toNat 0 < 1073741824) : AC Tryz.prog T tysN 60 [encClk a, .int g] [] (.tup [encClk (tickC a g.toNat), .int 0]) [] := by
  refine AC_intro hT Tryz.func60 rfl rfl (Nat.le_of_ble_eq_true rfl) ?_
  refine WP.seq ?_
  refine WP.reg hT hE [] rfl ?_ ?_
  · first | trivial | (simp [holdsC, under, slOk, slB, capEq] <;> grind)
  refine WP.seq ?_
  refine WP.seq ?_
  refine WP.reg hT hE [CG.pure (.int 0)] rfl ?_ ?_
  · simp [holdsC, under, CG.pure]
    exact ccheck_ac a ha
  refine WP.seq ?_
  refine WP.reg hT hE [] rfl ?_ ?_
  · first | trivial | (simp [holdsC, under, slOk, slB, capEq] <;> grind)
  refine WP.cond rfl (fun h2 => ?_) (fun h2 => ?_)
  · exfalso
    simp at h2
  · refine WP.skip ?_
    refine WP.seq ?_
    refine WP.seq ?_
    refine WP.reg hT hE [] rfl ?_ ?_
    · first | trivial | (simp [holdsC, under, slOk, slB, capEq] <;> grind)
    refine WP.cond rfl (fun h4 => ?_) (fun h4 => ?_)
    · exfalso
      have e : (bif decide (g < 0) then true else decide (g ≥ 6)) = true := h4
      rw [bor, Bool.or_eq_true, decide_eq_true_eq, decide_eq_true_eq] at e
      omega
    · refine WP.skip ?_
      refine WP.seq ?_
      refine WP.seq ?_
      refine WP.reg hT hE [] rfl ?_ ?_
      · simp [holdsC, under]
        omega
      refine WP.cond rfl (fun h6 => ?_) (fun h6 => ?_)
      · exfalso
        have e : (a.getD g.toNat 0 == 1073741824) = true := h6
        simp at e
        simp at hm
        omega
      · refine WP.skip ?_
        refine WP.seq ?_
        refine WP.reg hT hE [] rfl ?_ ?_
        · simp [holdsC, under]
          omega
        refine WP.seq ?_
        refine WP.reg hT hE [] rfl ?_ ?_
        · first | trivial | (simp [holdsC, under, slOk, slB, capEq] <;> grind)
        refine WP.ret ?_
        change Fin _ _ _ _ _ _ _ _
        have ha6 := ha.2 g.toNat (by omega)
        have hw : IntKind.i64.wrap (a.getD g.toNat 0 + 1) = a.getD g.toNat 0 + 1 := wrap_id (by omega) (by omega)
        refine fin_mk hT [(.s 4 0, 1)] (ts := [(4, .rp 106 (encClk (tickC a g.toNat))), (5, .int 0)]) (l := [encClk (tickC a g.toNat), .int 0]) ⟨⟨_, rfl, Nat.le_refl _⟩, trivial⟩ ⟨⟨rfl, _, rfl, ?_⟩, ⟨rfl, _, rfl, conv_eq rfl⟩, trivial⟩ trivial rfl rfl rfl
        refine conv_rpe rfl rfl (by decide) rfl ?_ (noIds_clk _)
        refine (arrI_put (l := a) (i := g.toNat) (by rw [ha.1]; omega)).trans ?_
        rw [hw]
        rfl
end Go.Ab


/- The clocks of a trace. -/
set_option autoImplicit false
set_option maxRecDepth 20000
set_option linter.unusedSimpArgs false
set_option linter.unusedVariables false
namespace Go.Ab
open Go.Proofs
def goN (t : List Evt) (i : Nat) : Nat := (eAt t i).go.toNat
def accL (L : List (List Int)) (t : List Evt) (i : Nat) : Nat → List Int
  | 0 => zeroC
  | j + 1 => if depB (eAt t j) (eAt t i) then joinC (accL L t i j) (L.getD j zeroC) else accL L t i j
def clkTo (t : List Evt) : Nat → List (List Int)
  | 0 => []
  | i + 1 => clkTo t i ++ [tickC (accL (clkTo t i) t i i) (goN t i)]
def clkOf (t : List Evt) (i : Nat) : List Int := (clkTo t (i + 1)).getD i zeroC
def accC (t : List Evt) (i j : Nat) : List Int := accL (clkTo t i) t i j
theorem clkTo_len (t : List Evt) : ∀ i, (clkTo t i).length = i
  | 0 => rfl
  | i + 1 => by simp [clkTo, clkTo_len t i]
theorem clkTo_get (t : List Evt) : ∀ {i q : Nat}, q < i → (clkTo t i).getD q zeroC = clkOf t q
  | i + 1, q, h => by
    by_cases e : q = i
    · subst e; rfl
    · have hq : q < i := by omega
      rw [← clkTo_get t hq, clkTo]
      simp only [List.getD_eq_getElem?_getD, List.getElem?_append_left (show q < (clkTo t i).length by rw [clkTo_len]; exact hq)]
theorem clkOf_eq (t : List Evt) (i : Nat) : clkOf t i = tickC (accC t i i) (goN t i) := by
  rw [clkOf, clkTo]
  simp [List.getD_eq_getElem?_getD, clkTo_len, accC]
theorem accC_succ (t : List Evt) {i j : Nat} (h : j < i) : accC t i (j + 1) = if depB (eAt t j) (eAt t i) then joinC (accC t i j) (clkOf t j) else accC t i j := by
  rw [accC, accL, clkTo_get t h]; rfl
/-- Numbers of clocks are no greater than .. -/
def leC (c : List Int) (n : Int) : Prop := c.length = 6 ∧ ∀ q, q < 6 → 0 ≤ c.getD q 0 ∧ c.getD q 0 ≤ n
theorem leC.ok {c : List Int} {n : Int} (h : leC c n) (hn : n ≤ 1073741824) : okC c := ⟨h.1, fun q hq => ⟨(h.2 q hq).1, Int.le_trans (h.2 q hq).2 hn⟩⟩
theorem leC.mono {c : List Int} {n m : Int} (h : leC c n) (hn : n ≤ m) : leC c m := ⟨h.1, fun q hq => ⟨(h.2 q hq).1, Int.le_trans (h.2 q hq).2 hn⟩⟩
theorem leC_zero {n : Int} (h : 0 ≤ n) : leC zeroC n := ⟨rfl, fun q hq => by match q, hq with | 0, _ | 1, _ | 2, _ | 3, _ | 4, _ | 5, _ => exact ⟨Int.le_refl _, h⟩⟩
theorem joinC_get {a b : List Int} {q : Nat} (h : q < 6) : (joinC a b).getD q 0 = mx (a.getD q 0) (b.getD q 0) := by rw [joinC, mixC_get h, if_pos h]
theorem leC_join {a b : List Int} {n : Int} (ha : leC a n) (hb : leC b n) : leC (joinC a b) n := by
  refine ⟨mixC_len _ _ _, fun q hq => ?_⟩
  rw [joinC_get hq, mx]
  have h1 := ha.2 q hq
  have h2 := hb.2 q hq
  split <;> omega
theorem tickC_get {a : List Int} {g q : Nat} (ha : a.length = 6) (hg : g < 6) : (tickC a g).getD q 0 = a.getD q 0 + if q = g then 1 else 0 := by
  by_cases e : q = g
  · subst e; simp [tickC, List.getD_eq_getElem?_getD, ha, hg]
  · simp only [tickC, List.getD_eq_getElem?_getD, if_neg e, Int.add_zero]
    rw [List.getElem?_set_ne (Ne.symm e)]
theorem leC_tick {a : List Int} {n : Int} {g : Nat} (ha : leC a n) (hg : g < 6) : leC (tickC a g) (n + 1) := by
  refine ⟨by simp [tickC, ha.1], fun q hq => ?_⟩
  rw [tickC_get ha.1 hg]
  have := ha.2 q hq
  split <;> omega
def GoOK (t : List Evt) : Prop := t.length ≤ 256 ∧ ∀ i, i < t.length → 0 ≤ (eAt t i).go ∧ (eAt t i).go < 6
theorem chk_right {t : List Evt} (e : chkE t = 0) : GoOK t := by
  unfold chkE at e
  by_cases h1 : t.length > 256
  · rw [if_pos h1] at e; cases e
  · rw [if_neg h1] at e
    by_cases h2 : t.any badE = true
    · rw [if_pos h2] at e; cases e
    · refine ⟨by omega, fun i hi => ?_⟩
      have h3 : badE (eAt t i) = false := by
        cases hz : badE (eAt t i) with
        | false => rfl
        | true => exact absurd (anyE_yes hi hz) h2
      simp only [badE, Bool.not_eq_false', rightE, Bool.and_eq_true, decide_eq_true_eq] at h3
      omega
theorem goN_lt {t : List Evt} (h : GoOK t) {i : Nat} (hi : i < t.length) : goN t i < 6 := by
  have := h.2 i hi
  unfold goN; omega
theorem clk_le {t : List Evt} (h : GoOK t) : ∀ i, i < t.length → leC (clkOf t i) ((i : Int) + 1) ∧ ∀ j, j ≤ i → leC (accC t i j) i := by
  intro i
  induction i using Nat.strongRecOn with
  | _ i ih =>
    intro hi
    have hacc : ∀ j, j ≤ i → leC (accC t i j) i := by
      intro j
      induction j with
      | zero => intro _; exact leC_zero (by omega)
      | succ j ihj =>
        intro hj
        rw [accC_succ t (by omega)]
        split
        · exact leC_join (ihj (by omega)) ((ih j (by omega) (by omega)).1.mono (by omega))
        · exact ihj (by omega)
    refine ⟨?_, hacc⟩
    rw [clkOf_eq]
    exact leC_tick (hacc i (Nat.le_refl _)) (goN_lt h hi)
def outC (t : List Evt) (i : Nat) (acc : List Int) (q : Nat) : List Int := if q < i then clkOf t q else if q = i then acc else zeroC
theorem outC_lt {t : List Evt} {i q : Nat} {acc : List Int} (h : q < i) : outC t i acc q = clkOf t q := if_pos h
theorem outC_at {t : List Evt} {i : Nat} {acc : List Int} : outC t i acc i = acc := by simp [outC]
theorem outC_set {t : List Evt} {i : Nat} {acc acc' : List Int} (q : Nat) : (bif Nat.beq q i then encClk acc' else encClk (outC t i acc q)) = encClk (outC t i acc' q) := by
  by_cases e : q = i
  · subst e; rw [Nat.beq_refl, cond_true, outC_at]
  · rw [nbeq_ne e, cond_false]; simp [outC, e]
theorem outC_next {t : List Evt} {i : Nat} (q : Nat) : outC t i (clkOf t i) q = outC t (i + 1) zeroC q := by
  unfold outC
  by_cases h1 : q < i
  · rw [if_pos h1, if_pos (by omega)]
  · rw [if_neg h1]
    by_cases h2 : q = i
    · subst h2; simp
    · rw [if_neg h2, if_neg (by omega)]; split <;> rfl
theorem clocks_ac (g : Bool) (t : List Evt) (h : GoOK t) : AC Tryz.prog T tysN 166 [evts g t] [] (clks false (clkTo t t.length)) [] := by
  refine AC_intro hT Tryz.func166 rfl rfl (Nat.le_of_ble_eq_true rfl) ?_
  have h256 := h.1
  refine WP.seq ?_
  refine WP.reg hT hE [] rfl ?_ ?_
  · first | trivial | (simp [holdsC, under, slOk, slB, capEq] <;> grind)
  refine WP.seq ?_
  refine WP.reg hT hE [] rfl ?_ ?_
  · have hbt : (T 106).bytes = 48 := rfl
    simp [holdsC, under, hbt]
    omega
  refine WP.seq ?_
  refine WP.seq ?_
  refine WP.reg hT hE [] rfl ?_ ?_
  · first | trivial | (simp [holdsC, under, slOk, slB, capEq] <;> grind)
  refine WP.block ?_
  refine WP.loop (α := Nat) (fun i => mkSt [(0, evts g t), (3, .own (.s 8 0) t.length 0 t.length none), (10, .int t.length), (11, .int i)] [(.s 8 0, .cells ⟨106, t.length, fun q => encClk (outC t i zeroC q), 0⟩)]) (fun i => i ≤ t.length) (fun i => t.length - i) ?_ ?_
  · refine ⟨0, ?_, ?_⟩
    · exact Nat.zero_le _
    · refine Ent.mk hT [] trivial ⟨⟨rfl, _, rfl, by first | exact conv_eq rfl | (refine conv_eq ?_; rw [wrap_id (by omega) (by omega)]; simp; done) | (refine conv_eq ?_; simp; done)⟩, ⟨rfl, _, rfl, by first | exact conv_eq rfl | (refine conv_eq ?_; rw [wrap_id (by omega) (by omega)]; simp; done) | (refine conv_eq ?_; simp; done)⟩, ⟨rfl, _, rfl, by first | exact conv_eq rfl | (refine conv_eq ?_; rw [wrap_id (by omega) (by omega)]; simp; done) | (refine conv_eq ?_; simp; done)⟩, ⟨rfl, _, rfl, by first | exact conv_eq rfl | (refine conv_eq ?_; rw [wrap_id (by omega) (by omega)]; simp; done) | (refine conv_eq ?_; simp; done)⟩, trivial⟩ ⟨⟨fun _ _ => okIds_clk _ _, .inl ⟨_, rfl, _, _, rfl, Nat.le_refl _, Nat.zero_le _, Nat.zero_le _, fun q hq => conv_eq (by have e : outC t 0 zeroC q = zeroC := (by unfold outC; simp); rw [e]; exact agg_ext (fun i => by match i with | 0 | 1 | 2 | 3 | 4 | 5 => rfl | i + 6 => rfl))⟩⟩, trivial⟩ rfl
  · rintro i hi
    refine WP.seq ?_
    refine WP.reg hT hE [] rfl ?_ ?_
    · first | trivial | (simp [holdsC, under, slOk, slB, capEq] <;> grind)
    refine WP.seq ?_
    refine WP.cond rfl (fun h3 => ?_) (fun h3 => ?_)
    · have hil : i < t.length := by simpa using h3
      have hle := clk_le h i hil
      have hgo := h.2 i hil
      refine WP.skip ?_
      refine WP.seq ?_
      refine WP.block ?_
      refine WP.seq ?_
      refine WP.reg hT hE [] rfl ?_ ?_
      · first | trivial | (simp [holdsC, under, slOk, slB, capEq] <;> grind)
      refine WP.seq ?_
      refine WP.seq ?_
      refine WP.reg hT hE [] rfl ?_ ?_
      · first | trivial | (simp [holdsC, under, slOk, slB, capEq] <;> grind)
      refine WP.block ?_
      refine WP.loop (α := Nat) (fun j => mkSt [(0, evts g t), (3, .own (.s 8 0) t.length 0 t.length none), (4, .int i), (10, .int t.length), (11, .int i), (14, .int i), (15, .int j)] [(.s 8 0, .cells ⟨106, t.length, fun q => encClk (outC t i (accC t i j) q), 0⟩)]) (fun j => j ≤ i) (fun j => i - j) ?_ ?_
      · refine ⟨0, ?_, ?_⟩
        · exact Nat.zero_le _
        · refine Ent.mk hT [] trivial ⟨⟨rfl, _, rfl, by first | exact conv_eq rfl | (refine conv_eq ?_; rw [wrap_id (by omega) (by omega)]; simp; done) | (refine conv_eq ?_; simp; done)⟩, ⟨rfl, _, rfl, by first | exact conv_eq rfl | (refine conv_eq ?_; rw [wrap_id (by omega) (by omega)]; simp; done) | (refine conv_eq ?_; simp; done)⟩, ⟨rfl, _, rfl, by first | exact conv_eq rfl | (refine conv_eq ?_; rw [wrap_id (by omega) (by omega)]; simp; done) | (refine conv_eq ?_; simp; done)⟩, ⟨rfl, _, rfl, by first | exact conv_eq rfl | (refine conv_eq ?_; rw [wrap_id (by omega) (by omega)]; simp; done) | (refine conv_eq ?_; simp; done)⟩, ⟨rfl, _, rfl, by first | exact conv_eq rfl | (refine conv_eq ?_; rw [wrap_id (by omega) (by omega)]; simp; done) | (refine conv_eq ?_; simp; done)⟩, ⟨rfl, _, rfl, by first | exact conv_eq rfl | (refine conv_eq ?_; rw [wrap_id (by omega) (by omega)]; simp; done) | (refine conv_eq ?_; simp; done)⟩, ⟨rfl, _, rfl, by first | exact conv_eq rfl | (refine conv_eq ?_; rw [wrap_id (by omega) (by omega)]; simp; done) | (refine conv_eq ?_; simp; done)⟩, trivial⟩ ⟨⟨fun _ _ => okIds_clk _ _, .inl ⟨_, rfl, _, _, rfl, Nat.le_refl _, Nat.zero_le _, Nat.zero_le _, fun q hq => conv_eq rfl⟩⟩, trivial⟩ rfl
      · rintro j hj
        refine WP.seq ?_
        refine WP.reg hT hE [] rfl ?_ ?_
        · first | trivial | (simp [holdsC, under, slOk, slB, capEq] <;> grind)
        refine WP.seq ?_
        refine WP.cond rfl (fun h6 => ?_) (fun h6 => ?_)
        · have hjl : j < i := by simpa using h6
          refine WP.skip ?_
          refine WP.seq ?_
          refine WP.block ?_
          refine WP.seq ?_
          refine WP.reg hT hE [] rfl ?_ ?_
          · first | trivial | (simp [holdsC, under, slOk, slB, capEq] <;> grind)
          refine WP.seq ?_
          refine WP.drw hT hE hM [CG.pure (.bool (depB (eAt t j) (eAt t i)))] rfl ?_ ?_
          · have hd := dep_ac (eAt t j) (eAt t i)
            simp [holdsC, under, CG.pure]
            exact ⟨⟨by omega, by omega⟩, hd⟩
          refine WP.cond rfl (fun h8 => ?_) (fun h8 => ?_)
          · have hdp : depB (eAt t j) (eAt t i) = true := h8
            refine WP.drw hT hE hM [CG.pure (.tup [encClk (joinC (accC t i j) (clkOf t j)), .int 0])] rfl ?_ ?_
            · have hjn := join_ac (accC t i j) (clkOf t j) ((hle.2 j (by omega)).ok (by omega)) ((clk_le h j (by omega)).1.ok (by omega))
              have e1 : outC t i (accC t i j) (i : Int).toNat = accC t i j := outC_at
              have e2 : outC t i (accC t i j) (j : Int).toNat = clkOf t j := outC_lt hjl
              have hjn2 : AC Tryz.prog T tysN 59 [encClk (outC t i (accC t i j) (i : Int).toNat), encClk (outC t i (accC t i j) (j : Int).toNat)] [] (.tup [encClk (joinC (accC t i j) (clkOf t j)), .int 0]) [] := by rw [e1, e2]; exact hjn
              simp [holdsC, under, CG.pure]
              exact ⟨⟨⟨by omega, by omega⟩, hjn2⟩, by omega⟩
            refine WP.reg hT hE [] rfl ?_ ?_
            · first | trivial | (simp [holdsC, under, slOk, slB, capEq] <;> grind)
            refine ⟨j + 1, ?_, ?_, ?_⟩
            · exact hjl
            · refine Ent.mk hT [] trivial ⟨⟨rfl, _, rfl, by first | exact conv_eq rfl | (refine conv_eq ?_; rw [wrap_id (by omega) (by omega)]; simp; done) | (refine conv_eq ?_; simp; done)⟩, ⟨rfl, _, rfl, by first | exact conv_eq rfl | (refine conv_eq ?_; rw [wrap_id (by omega) (by omega)]; simp; done) | (refine conv_eq ?_; simp; done)⟩, ⟨rfl, _, rfl, by first | exact conv_eq rfl | (refine conv_eq ?_; rw [wrap_id (by omega) (by omega)]; simp; done) | (refine conv_eq ?_; simp; done)⟩, ⟨rfl, _, rfl, by first | exact conv_eq rfl | (refine conv_eq ?_; rw [wrap_id (by omega) (by omega)]; simp; done) | (refine conv_eq ?_; simp; done)⟩, ⟨rfl, _, rfl, by first | exact conv_eq rfl | (refine conv_eq ?_; rw [wrap_id (by omega) (by omega)]; simp; done) | (refine conv_eq ?_; simp; done)⟩, ⟨rfl, _, rfl, by first | exact conv_eq rfl | (refine conv_eq ?_; rw [wrap_id (by omega) (by omega)]; simp; done) | (refine conv_eq ?_; simp; done)⟩, ⟨rfl, _, rfl, by first | exact conv_eq rfl | (refine conv_eq ?_; rw [wrap_id (by omega) (by omega)]; simp; done) | (refine conv_eq ?_; simp; done)⟩, trivial⟩ ⟨⟨fun _ _ => okIds_clk _ _, .inl ⟨_, rfl, _, _, rfl, Nat.le_refl _, Nat.zero_le _, Nat.zero_le _, fun q hq => conv_eq ((outC_set (i := i) (acc' := joinC (accC t i j) (clkOf t j)) q).trans (by rw [accC_succ t hjl, if_pos hdp]))⟩⟩, trivial⟩ rfl
            · (try simp only []); first | omega | grind
          · have hdp : depB (eAt t j) (eAt t i) = false := h8
            refine WP.skip ?_
            refine WP.reg hT hE [] rfl ?_ ?_
            · first | trivial | (simp [holdsC, under, slOk, slB, capEq] <;> grind)
            refine ⟨j + 1, ?_, ?_, ?_⟩
            · exact hjl
            · refine Ent.mk hT [] trivial ⟨⟨rfl, _, rfl, by first | exact conv_eq rfl | (refine conv_eq ?_; rw [wrap_id (by omega) (by omega)]; simp; done) | (refine conv_eq ?_; simp; done)⟩, ⟨rfl, _, rfl, by first | exact conv_eq rfl | (refine conv_eq ?_; rw [wrap_id (by omega) (by omega)]; simp; done) | (refine conv_eq ?_; simp; done)⟩, ⟨rfl, _, rfl, by first | exact conv_eq rfl | (refine conv_eq ?_; rw [wrap_id (by omega) (by omega)]; simp; done) | (refine conv_eq ?_; simp; done)⟩, ⟨rfl, _, rfl, by first | exact conv_eq rfl | (refine conv_eq ?_; rw [wrap_id (by omega) (by omega)]; simp; done) | (refine conv_eq ?_; simp; done)⟩, ⟨rfl, _, rfl, by first | exact conv_eq rfl | (refine conv_eq ?_; rw [wrap_id (by omega) (by omega)]; simp; done) | (refine conv_eq ?_; simp; done)⟩, ⟨rfl, _, rfl, by first | exact conv_eq rfl | (refine conv_eq ?_; rw [wrap_id (by omega) (by omega)]; simp; done) | (refine conv_eq ?_; simp; done)⟩, ⟨rfl, _, rfl, by first | exact conv_eq rfl | (refine conv_eq ?_; rw [wrap_id (by omega) (by omega)]; simp; done) | (refine conv_eq ?_; simp; done)⟩, trivial⟩ ⟨⟨fun _ _ => okIds_clk _ _, .inl ⟨_, rfl, _, _, rfl, Nat.le_refl _, Nat.zero_le _, Nat.zero_le _, fun q hq => conv_eq (by rw [accC_succ t hjl, hdp]; rfl)⟩⟩, trivial⟩ rfl
            · (try simp only []); first | omega | grind
        · have hjl : j = i := by simp at h6; omega
          subst hjl
          refine WP.exit ?_
          refine WP.drw hT hE hM [CG.pure (.tup [encClk (clkOf t j), .int 0])] rfl ?_ ?_
          · have hjn := tick_ac (accC t j j) (eAt t j).go ((hle.2 j (Nat.le_refl _)).ok (by omega)) hgo (by have := ((hle.2 j (Nat.le_refl _)).2 (eAt t j).go.toNat (by omega)).2; omega)
            have e1 : outC t j (accC t j j) (j : Int).toNat = accC t j j := outC_at
            have hjn2 : AC Tryz.prog T tysN 60 [encClk (outC t j (accC t j j) (j : Int).toNat), .int (eAt t j).go] [] (.tup [encClk (clkOf t j), .int 0]) [] := by rw [e1, clkOf_eq]; exact hjn
            simp [holdsC, under, CG.pure]
            exact ⟨⟨by omega, hjn2⟩, by omega⟩
          refine WP.reg hT hE [] rfl ?_ ?_
          · first | trivial | (simp [holdsC, under, slOk, slB, capEq] <;> grind)
          refine ⟨j + 1, ?_, ?_, ?_⟩
          · exact hil
          · refine Ent.mk hT [] trivial ⟨⟨rfl, _, rfl, by first | exact conv_eq rfl | (refine conv_eq ?_; rw [wrap_id (by omega) (by omega)]; simp; done) | (refine conv_eq ?_; simp; done)⟩, ⟨rfl, _, rfl, by first | exact conv_eq rfl | (refine conv_eq ?_; rw [wrap_id (by omega) (by omega)]; simp; done) | (refine conv_eq ?_; simp; done)⟩, ⟨rfl, _, rfl, by first | exact conv_eq rfl | (refine conv_eq ?_; rw [wrap_id (by omega) (by omega)]; simp; done) | (refine conv_eq ?_; simp; done)⟩, ⟨rfl, _, rfl, by first | exact conv_eq rfl | (refine conv_eq ?_; rw [wrap_id (by omega) (by omega)]; simp; done) | (refine conv_eq ?_; simp; done)⟩, trivial⟩ ⟨⟨fun _ _ => okIds_clk _ _, .inl ⟨_, rfl, _, _, rfl, Nat.le_refl _, Nat.zero_le _, Nat.zero_le _, fun q hq => conv_eq ((outC_set (i := j) (acc' := clkOf t j) q).trans (by rw [outC_next]))⟩⟩, trivial⟩ rfl
          · (try simp only []); first | omega | grind
    · have hil : i = t.length := by simp at h3; omega
      subst hil
      refine WP.exit ?_
      refine WP.seq ?_
      refine WP.reg hT hE [] rfl ?_ ?_
      · first | trivial | (simp [holdsC, under, slOk, slB, capEq] <;> grind)
      refine WP.ret ?_
      change Fin _ _ _ _ _ _ _ _
      refine fin_mk hT [(.s 8 0, t.length)] (ts := [(2, clks false (clkTo t t.length))]) (l := [clks false (clkTo t t.length)]) ⟨⟨_, rfl, Nat.le_refl _⟩, trivial⟩ ⟨⟨rfl, _, rfl, ?_⟩, trivial⟩ trivial rfl rfl rfl
      rw [clks, clkTo_len]
      exact conv_row rfl rfl rfl (fun h => by cases h) (by simp [lookF, idbeq_self]) (fun q hq => by rw [Nat.zero_add]; exact ⟨noIds_clk _, .of_eq (by rw [clkTo_get t hq]; show encClk (outC t t.length zeroC q) = _; rw [outC_lt hq])⟩)
end Go.Ab

