/- Part 16 of a proof of a statement about the given program: an abstract machine over the model, proved sound, and contracts of the functions that the statement reaches; the last part proves the statement, for every input, with no condition. -/
import Derived.Test.YtcfelhfcjdofoaaGreatDoorX14
import Derived.Test.YtcfelhfcjdofoaaGreatDoorX13
set_option autoImplicit false
set_option linter.unusedSimpArgs false
set_option linter.unusedVariables false
set_option maxHeartbeats 4000000
set_option maxRecDepth 20000
namespace Go.Ab
open Go.Proofs
def ints (f:Bool) (l:List Int):AV := .row 3 f l.length (fun i => .int (l.getD i 0))
theorem dQ {P:Program} {T:Nat→TI} {N nt:Nat} (hT:TOK P T N) {t:Nat→Option (D×AV)} {m:Id→Option Ob} {k:Nat} {b r:Int} (h:t k=some (.always,.v (.int .i64 b))) (e:b=r):Fin T N nt 0 [.tmp k] (.int r) [] ⟨t,m⟩:=by
 subst e;refine ⟨[(k,.int b)],Ent.mk hT [] trivial ⟨⟨rfl,_,h,ah rfl⟩,tt⟩ trivial rfl,([.int b],none),?_,trivial,rfl⟩;simp [BG,aP,kF,mJ]
theorem bor (a b:Bool):(bif a then true else b)=(a||b):=by cases a <;> rfl
theorem band (a b:Bool):(bif a then b else false)=(a&&b):=by cases a <;> rfl
structure RD where
 atomic:Bool
 init:Int
structure kE where
 op:Int
 a:Int
 b:Int
 c:Int
 n:Int
structure vU where
 send:Bool
 chan:Int
 reg:Int
 to:Int
structure y8 where
 cases:List vU
 els:Int
structure iW where
 params:Int
 regs:Int
 code:List kE
 sels:List y8
structure ay where
 vars:List RD
 locks:Int
 chans:List Int
 funcs:List iW
def Jq (x:RD):AV:=bG 116 [.bool x.atomic,.int x.init]
def aQ (x:kE):AV:=bG 120 [.int x.op,.int x.a,.int x.b,.int x.c,.int x.n]
def pK (x:vU):AV:=bG 215 [.bool x.send,.int x.chan,.int x.reg,.int x.to]
def rowP {α:Type} (t:Nat) (enc:α→AV) (d:α) (l:List α):AV := .row t false l.length (fun i=>enc (l.getD i d))
def Dy:vU:=⟨false,0,0,0⟩
def lF (x:y8):AV:=bG 103 [rowP 215 pK Dy x.cases,.int x.els]
def zh:kE:=⟨0,0,0,0,0⟩
def JW:y8:=⟨[],0⟩
def lG (x:iW):AV:=bG 100 [.int x.params,.int x.regs,rowP 120 aQ zh x.code,rowP 103 lF JW x.sels]
def Px:RD:=⟨false,0⟩
def yI:iW:=⟨0,0,[],[]⟩
def aC (x:ay):AV:=bG 26 [rowP 116 Jq Px x.vars,.int x.locks,ints false x.chans,rowP 100 lG yI x.funcs]
def vM (p:ay) (f:iW):AV:=bG 257 [aC p,lG f]
def gJ (n most:Int):Bool:=decide (n≥0)&&decide (n<most)
theorem tH (n m:Int):AC Tryz.prog T aV 260 [.int n,.int m] [] (.bool (gJ n m)) []:=by
 refine aA hT Tryz.func260 rfl rfl (Nat.le_of_ble_eq_true rfl) ?_;refine sg rfl ?_;refine sg rfl ?_;refine WP.ret ?_;change Fin ..;exact fin1 hT (by rfl) (by rw [band];rfl)
def jr (n most:Int):Int:=if gJ n most then 0 else 36
def yg (f:iW) (n:Int):Int:=if gJ n f.regs then 0 else 35
def wJ (f:iW) (n:Int):Int:=if gJ n f.code.length then 0 else 38
theorem ku (n m:Int):AC Tryz.prog T aV 212 [.int n,.int m] [] (.int (jr n m)) []:=by
 refine aA hT Tryz.func212 rfl rfl (Nat.le_of_ble_eq_true rfl) ?_;refine sg rfl ?_;refine sq (sq (rgs [CG.pure (.bool (gJ n m))] rfl ?_ ?_))
 ·exact tH n m
 refine cd rfl (fun h1=>?_) (fun h1=>?_)
 ·have h:gJ n m=false:=by simpa using h1
  refine sg rfl ?_;exact WP.ret (dQ hT (by rfl) (by simp [jr,h]))
 ·have h:gJ n m=true:=by simpa using h1
  refine sk (sq (rg [] rfl ?_));exact WP.ret (dQ hT (by rfl) (by simp [jr,h]))
theorem lQ (p:ay) (f:iW) (n:Int):AC Tryz.prog T aV 213 [.rp 257 (vM p f),.int n] [] (.int (yg f n)) []:=by
 refine aA hT Tryz.func213 rfl rfl (Nat.le_of_ble_eq_true rfl) ?_;refine sg rfl ?_;refine sq (sq (rgs [CG.pure (.bool (gJ n f.regs))] rfl ?_ ?_))
 ·exact tH n f.regs
 refine cd rfl (fun h1=>?_) (fun h1=>?_)
 ·have h:gJ n f.regs=false:=by simpa using h1
  refine sg rfl ?_;exact WP.ret (dQ hT (by rfl) (by simp [yg,h]))
 ·have h:gJ n f.regs=true:=by simpa using h1
  refine sk (sq (rg [] rfl ?_));exact WP.ret (dQ hT (by rfl) (by simp [yg,h]))
theorem pU (p:ay) (f:iW) (n:Int):AC Tryz.prog T aV 214 [.rp 257 (vM p f),.int n] [] (.int (wJ f n)) []:=by
 refine aA hT Tryz.func214 rfl rfl (Nat.le_of_ble_eq_true rfl) ?_;refine sg rfl ?_;refine sq (sq (rgs [CG.pure (.bool (gJ n f.code.length))] rfl ?_ ?_))
 ·exact tH n f.code.length
 refine cd rfl (fun h1=>?_) (fun h1=>?_)
 ·have h:gJ n f.code.length=false:=by simpa using h1
  refine sg rfl ?_;exact WP.ret (dQ hT (by rfl) (by simp [wJ,h]))
 ·have h:gJ n f.code.length=true:=by simpa using h1
  refine sk (sq (rg [] rfl ?_));exact WP.ret (dQ hT (by rfl) (by simp [wJ,h]))
def wo (f:iW) (n k:Int):Int:=if (k==0&&n != 0)||(decide (k>0)&&(decide (n<0)||decide (n>IntKind.i64.wrap (f.regs - k))))then 35 else 0
def gV (p:ay) (n:Int):Int:=if gJ n p.vars.length then (if (p.vars.getD n.toNat Px).atomic then 0 else 37)else 36
def bT (p:ay) (f:iW) (c n:Int) (x:kE):Int :=
 if c=111 then (if n = -1 then 0 else yg f n)else if c=114 then yg f n else if c=119 then yg f n else
 if c=118 then jr n p.vars.length else if c=97 then gV p n else if c=108 then jr n p.locks else
 if c=99 then jr n p.chans.length else if c=115 then jr n f.sels.length else if c=102 then jr n p.funcs.length else
 if c=116 then wJ f n else if c=112 then wo f n (p.funcs.getD x.b.toNat yI).params else 0
theorem lX {n m:Int} (h:jr n m=0):0≤n∧n<m:=by
 unfold jr at h;split at h
 ·rename_i hw;simpa [gJ]using hw
 ·cases h
theorem FQ (p:ay) (f:iW) (c n:Int) (x:kE) (hx:c=112→0≤x.b∧x.b<p.funcs.length):AC Tryz.prog T aV 217 [.rp 257 (vM p f),.v (.int .u8 c),.int n,aQ x] [] (.int (bT p f c n x)) []:=by
 refine aA hT Tryz.func217 rfl rfl (Nat.le_of_ble_eq_true rfl) ?_;refine sg rfl ?_;refine sq (sq (rg [] rfl ?_));refine bk (sq (rg [] rfl ?_));refine cd rfl (fun h2=>?_) (fun h2=>?_)
 ·refine sq (sq (rg [] rfl ?_));refine cd rfl (fun h3=>?_) (fun h3=>?_)
  ·refine sg rfl ?_;refine WP.ret ?_;change Fin ..;refine dQ hT (by rfl) ?_
   first | (simp_all [bT];done) | (simp_all [bT,gV,jr];done) | (simp_all [bT,gV,jr,wo,bor,band];done)
  ·refine sk (sq (rgs [CG.pure (.int (yg f n))] rfl ?_ ?_))
   ·exact lQ p f n
   refine WP.ret ?_;change Fin ..;refine dQ hT (by rfl) ?_
   first | (simp_all [bT];done) | (simp_all [bT,gV,jr];done) | (simp_all [bT,gV,jr,wo,bor,band];done)
 ·refine sq (sq (rg [] rfl ?_));refine cd rfl (fun h6=>?_) (fun h6=>?_)
  ·refine sk ?_;refine cd rfl (fun h6=>?_) (fun h6=>?_)
   ·refine sq (rgs [CG.pure (.int (yg f n))] rfl ?_ ?_)
    ·exact lQ p f n
    refine WP.ret ?_;change Fin ..;refine dQ hT (by rfl) ?_
    first | (simp_all [bT];done) | (simp_all [bT,gV,jr];done) | (simp_all [bT,gV,jr,wo,bor,band];done)
   ·simp_all
  ·refine rg [] rfl ?_;refine cd rfl (fun h7=>?_) (fun h7=>?_)
   ·refine sq (rgs [CG.pure (.int (yg f n))] rfl ?_ ?_)
    ·exact lQ p f n
    refine WP.ret ?_;change Fin ..;refine dQ hT (by rfl) ?_
    first | (simp_all [bT];done) | (simp_all [bT,gV,jr];done) | (simp_all [bT,gV,jr,wo,bor,band];done)
   ·refine sg rfl ?_;refine cd rfl (fun h9=>?_) (fun h9=>?_)
    ·refine sq (sq (rgs [CG.pure (.int (jr n p.vars.length))] rfl ?_ ?_))
     ·exact ku n p.vars.length
     refine sg rfl ?_;refine cd rfl (fun h11=>?_) (fun h11=>?_)
     ·refine sg rfl ?_;refine WP.ret ?_;change Fin ..;refine dQ hT (by rfl) ?_
      first | (simp_all [bT];done) | (simp_all [bT,gV,jr];done) | (simp_all [bT,gV,jr,wo,bor,band];done)
     ·refine sk (sq (rg [] rfl ?_));refine WP.ret ?_;change Fin ..;refine dQ hT (by rfl) ?_
      first | (simp_all [bT];done) | (simp_all [bT,gV,jr];done) | (simp_all [bT,gV,jr,wo,bor,band];done)
    ·refine sg rfl ?_;refine cd rfl (fun h14=>?_) (fun h14=>?_)
     ·refine sq (sq (rgs [CG.pure (.int (jr n p.vars.length))] rfl ?_ ?_))
      ·exact ku n p.vars.length
      refine sg rfl ?_;refine cd rfl (fun h16=>?_) (fun h16=>?_)
      ·refine sg rfl ?_;refine WP.ret ?_;change Fin ..;refine dQ hT (by rfl) ?_
       first | (simp_all [bT];done) | (simp_all [bT,gV,jr];done) | (simp_all [bT,gV,jr,wo,bor,band];done)
      ·have hv:=lX (show jr n p.vars.length=0 by simpa using h16);refine sk (sq (rgs [] rfl ?_ ?_))
       ·simp [aj,under];omega
       refine cd rfl (fun h18=>?_) (fun h18=>?_)
       ·refine sg rfl ?_;refine WP.ret ?_;change Fin ..;refine dQ hT (by rfl) ?_
        first | (simp_all [bT];done) | (simp_all [bT,gV,jr];done) | (simp_all [bT,gV,jr,wo,bor,band];done)
       ·refine sk (sq (rg [] rfl ?_));refine WP.ret ?_;change Fin ..;refine dQ hT (by rfl) ?_
        first | (simp_all [bT];done) | (simp_all [bT,gV,jr];done) | (simp_all [bT,gV,jr,wo,bor,band];done)
     ·refine sg rfl ?_;refine cd rfl (fun h20=>?_) (fun h20=>?_)
      ·refine sq (rgs [CG.pure (.int (jr n p.locks))] rfl ?_ ?_)
       ·exact ku n p.locks
       refine WP.ret ?_;change Fin ..;refine dQ hT (by rfl) ?_
       first | (simp_all [bT];done) | (simp_all [bT,gV,jr];done) | (simp_all [bT,gV,jr,wo,bor,band];done)
      ·refine sg rfl ?_;refine cd rfl (fun h22=>?_) (fun h22=>?_)
       ·refine sq (rgs [CG.pure (.int (jr n p.chans.length))] rfl ?_ ?_)
        ·exact ku n p.chans.length
        refine WP.ret ?_;change Fin ..;refine dQ hT (by rfl) ?_
        first | (simp_all [bT];done) | (simp_all [bT,gV,jr];done) | (simp_all [bT,gV,jr,wo,bor,band];done)
       ·refine sg rfl ?_;refine cd rfl (fun h24=>?_) (fun h24=>?_)
        ·refine sq (rgs [CG.pure (.int (jr n f.sels.length))] rfl ?_ ?_)
         ·exact ku n f.sels.length
         refine WP.ret ?_;change Fin ..;refine dQ hT (by rfl) ?_
         first | (simp_all [bT];done) | (simp_all [bT,gV,jr];done) | (simp_all [bT,gV,jr,wo,bor,band];done)
        ·refine sg rfl ?_;refine cd rfl (fun h26=>?_) (fun h26=>?_)
         ·refine sq (rgs [CG.pure (.int (jr n p.funcs.length))] rfl ?_ ?_)
          ·exact ku n p.funcs.length
          refine WP.ret ?_;change Fin ..;refine dQ hT (by rfl) ?_
          first | (simp_all [bT];done) | (simp_all [bT,gV,jr];done) | (simp_all [bT,gV,jr,wo,bor,band];done)
         ·refine sg rfl ?_;refine cd rfl (fun h28=>?_) (fun h28=>?_)
          ·refine sq (rgs [CG.pure (.int (wJ f n))] rfl ?_ ?_)
           ·exact pU p f n
           refine WP.ret ?_;change Fin ..;refine dQ hT (by rfl) ?_
           first | (simp_all [bT];done) | (simp_all [bT,gV,jr];done) | (simp_all [bT,gV,jr,wo,bor,band];done)
          ·refine sg rfl ?_;refine cd rfl (fun h30=>?_) (fun h30=>?_)
           ·have hb:=hx (by simpa using h30);refine sq (drs [] rfl ?_ ?_)
            ·simp [aj,under];omega
            refine sg rfl ?_;refine cd rfl (fun h32=>?_) (fun h32=>?_)
            ·refine sg rfl ?_;refine WP.ret ?_;change Fin ..;refine dQ hT (by rfl) ?_
             first | (simp_all [bT];done) | (simp_all [bT,gV,jr];done) | (simp_all [bT,gV,jr,wo,bor,band];done)
            ·refine sk (sq (rg [] rfl ?_));refine WP.ret ?_;change Fin ..;refine dQ hT (by rfl) ?_
             first | (simp_all [bT];done) | (simp_all [bT,gV,jr];done) | (simp_all [bT,gV,jr,wo,bor,band];done)
           ·refine sk (sq (rg [] rfl ?_));refine WP.ret ?_;change Fin ..;refine dQ hT (by rfl) ?_
            first | (simp_all [bT];done) | (simp_all [bT,gV,jr];done) | (simp_all [bT,gV,jr,wo,bor,band];done)
theorem sO {P:Program} {T:Nat→TI} {N nt:Nat} (hT:TOK P T N) {t:Nat→Option (D×AV)} {m:Id→Option Ob} {k:Nat} {b r:ByteArray} (h:t k=some (.always,.v (.string b))) (e:b=r):Fin T N nt 0 [.tmp k] (.v (.string r)) [] ⟨t,m⟩:=by
 subst e;refine ⟨[(k,.v (.string b))],Ent.mk hT [] trivial ⟨⟨rfl,_,h,ah rfl⟩,tt⟩ trivial rfl,([.v (.string b)],none),?_,trivial,rfl⟩;simp [BG,aP,kF,mJ]
def dG (op:Int):List UInt8 :=
 if 1≤op∧op≤15 then [114,114,45,45]else if 16≤op∧op≤36 then [114,114,114,45]else
 if op=40∨op=44∨op=65 then [114,45,45,110]else if op=41 then [114,114,45,45]else if op=42 then [116,45,45,45]else
 if op=43 then [114,116,45,45]else if op=45∨op=64 then [45,45,45,45]else if op=50 then [114,118,45,45]else
 if op=51 then [118,114,45,45]else if op=52 then [111,97,114,45]else if op=53 then [114,97,114,119]else
 if op=54 then [97,114,45,45]else if op=55∨op=56 then [108,45,45,45]else if op=57 then [114,108,45,45]else
 if op=58 then [99,114,45,45]else if op=59 then [111,99,111,45]else if op=60 then [99,45,45,45]else
 if op=61 then [115,45,45,45]else if op=62 then [111,102,112,45]else if op=63 then [114,45,45,45]else []
def nX (op:Int):ByteArray:=⟨(dG op).toArray⟩
theorem bU {op:Int} {l:List UInt8} (h:dG op=l):(⟨l.toArray⟩:ByteArray)=nX op:=by rw [nX,h]
theorem OQ (op:Int):AC Tryz.prog T aV 215 [.int op] [] (.v (.string (nX op))) []:=by
 refine aA hT Tryz.func215 rfl rfl (Nat.le_of_ble_eq_true rfl) ?_;refine sg rfl ?_;refine sq (bk (sq (rg [] rfl ?_)));refine cd rfl (fun h1=>?_) (fun h1=>?_)
 ·refine sg rfl ?_;refine WP.ret ?_;change Fin ..;refine sO hT (by rfl) (bU ?_);simp only [band,Bool.and_eq_true,Bool.and_eq_false_iff,decide_eq_true_eq,decide_eq_false_iff_not,beq_iff_eq,beq_eq_false_iff_ne]at *
  unfold dG
  all_goals (repeat (first | rfl | (rw [if_neg (by omega)]) | (rw [if_pos (by omega)])))
 ·refine sg rfl ?_;refine cd rfl (fun h3=>?_) (fun h3=>?_)
  ·refine sg rfl ?_;refine WP.ret ?_;change Fin ..;refine sO hT (by rfl) (bU ?_);simp only [band,Bool.and_eq_true,Bool.and_eq_false_iff,decide_eq_true_eq,decide_eq_false_iff_not,beq_iff_eq,beq_eq_false_iff_ne]at *
   unfold dG
   all_goals (repeat (first | rfl | (rw [if_neg (by omega)]) | (rw [if_pos (by omega)])))
  ·refine sk (sq (sq (rg [] rfl ?_)));refine bk (sq (sq (rg [] rfl ?_)));refine cd rfl (fun h6=>?_) (fun h6=>?_)
   ·refine sk ?_;refine cd rfl (fun h6=>?_) (fun h6=>?_)
    ·refine sg rfl ?_;refine WP.ret ?_;change Fin ..;refine sO hT (by rfl) (bU ?_);simp only [band,Bool.and_eq_true,Bool.and_eq_false_iff,decide_eq_true_eq,decide_eq_false_iff_not,beq_iff_eq,beq_eq_false_iff_ne]at *
     unfold dG
     all_goals (repeat (first | rfl | (rw [if_neg (by omega)]) | (rw [if_pos (by omega)])))
    ·simp_all
   ·refine sg rfl ?_;refine cd rfl (fun h7=>?_) (fun h7=>?_)
    ·refine sk ?_;refine cd rfl (fun h7=>?_) (fun h7=>?_)
     ·refine sg rfl ?_;refine WP.ret ?_;change Fin ..;refine sO hT (by rfl) (bU ?_);simp only [band,Bool.and_eq_true,Bool.and_eq_false_iff,decide_eq_true_eq,decide_eq_false_iff_not,beq_iff_eq,beq_eq_false_iff_ne]at *
      unfold dG
      all_goals (repeat (first | rfl | (rw [if_neg (by omega)]) | (rw [if_pos (by omega)])))
     ·simp_all
    ·refine rg [] rfl ?_;refine cd rfl (fun h8=>?_) (fun h8=>?_)
     ·refine sg rfl ?_;refine WP.ret ?_;change Fin ..;refine sO hT (by rfl) (bU ?_);simp only [band,Bool.and_eq_true,Bool.and_eq_false_iff,decide_eq_true_eq,decide_eq_false_iff_not,beq_iff_eq,beq_eq_false_iff_ne]at *
      unfold dG
      all_goals (repeat (first | rfl | (rw [if_neg (by omega)]) | (rw [if_pos (by omega)])))
     ·refine sg rfl ?_;refine cd rfl (fun h10=>?_) (fun h10=>?_)
      ·refine sg rfl ?_;refine WP.ret ?_;change Fin ..;refine sO hT (by rfl) (bU ?_);simp only [band,Bool.and_eq_true,Bool.and_eq_false_iff,decide_eq_true_eq,decide_eq_false_iff_not,beq_iff_eq,beq_eq_false_iff_ne]at *
       unfold dG
       all_goals (repeat (first | rfl | (rw [if_neg (by omega)]) | (rw [if_pos (by omega)])))
      ·refine sg rfl ?_;refine cd rfl (fun h12=>?_) (fun h12=>?_)
       ·refine sg rfl ?_;refine WP.ret ?_;change Fin ..;refine sO hT (by rfl) (bU ?_);simp only [band,Bool.and_eq_true,Bool.and_eq_false_iff,decide_eq_true_eq,decide_eq_false_iff_not,beq_iff_eq,beq_eq_false_iff_ne]at *
        unfold dG
        all_goals (repeat (first | rfl | (rw [if_neg (by omega)]) | (rw [if_pos (by omega)])))
       ·refine sg rfl ?_;refine cd rfl (fun h14=>?_) (fun h14=>?_)
        ·refine sg rfl ?_;refine WP.ret ?_;change Fin ..;refine sO hT (by rfl) (bU ?_);simp only [band,Bool.and_eq_true,Bool.and_eq_false_iff,decide_eq_true_eq,decide_eq_false_iff_not,beq_iff_eq,beq_eq_false_iff_ne]at *
         unfold dG
         all_goals (repeat (first | rfl | (rw [if_neg (by omega)]) | (rw [if_pos (by omega)])))
        ·refine sq (sq (rg [] rfl ?_));refine cd rfl (fun h16=>?_) (fun h16=>?_)
         ·refine sk ?_;refine cd rfl (fun h16=>?_) (fun h16=>?_)
          ·refine sg rfl ?_;refine WP.ret ?_;change Fin ..;refine sO hT (by rfl) (bU ?_);simp only [band,Bool.and_eq_true,Bool.and_eq_false_iff,decide_eq_true_eq,decide_eq_false_iff_not,beq_iff_eq,beq_eq_false_iff_ne]at *
           unfold dG
           all_goals (repeat (first | rfl | (rw [if_neg (by omega)]) | (rw [if_pos (by omega)])))
          ·simp_all
         ·refine rg [] rfl ?_;refine cd rfl (fun h17=>?_) (fun h17=>?_)
          ·refine sg rfl ?_;refine WP.ret ?_;change Fin ..;refine sO hT (by rfl) (bU ?_);simp only [band,Bool.and_eq_true,Bool.and_eq_false_iff,decide_eq_true_eq,decide_eq_false_iff_not,beq_iff_eq,beq_eq_false_iff_ne]at *
           unfold dG
           all_goals (repeat (first | rfl | (rw [if_neg (by omega)]) | (rw [if_pos (by omega)])))
          ·refine sg rfl ?_;refine cd rfl (fun h19=>?_) (fun h19=>?_)
           ·refine sg rfl ?_;refine WP.ret ?_;change Fin ..;refine sO hT (by rfl) (bU ?_);simp only [band,Bool.and_eq_true,Bool.and_eq_false_iff,decide_eq_true_eq,decide_eq_false_iff_not,beq_iff_eq,beq_eq_false_iff_ne]at *
            unfold dG
            all_goals (repeat (first | rfl | (rw [if_neg (by omega)]) | (rw [if_pos (by omega)])))
           ·refine sg rfl ?_;refine cd rfl (fun h21=>?_) (fun h21=>?_)
            ·refine sg rfl ?_;refine WP.ret ?_;change Fin ..;refine sO hT (by rfl) (bU ?_);simp only [band,Bool.and_eq_true,Bool.and_eq_false_iff,decide_eq_true_eq,decide_eq_false_iff_not,beq_iff_eq,beq_eq_false_iff_ne]at *
             unfold dG
             all_goals (repeat (first | rfl | (rw [if_neg (by omega)]) | (rw [if_pos (by omega)])))
            ·refine sg rfl ?_;refine cd rfl (fun h23=>?_) (fun h23=>?_)
             ·refine sg rfl ?_;refine WP.ret ?_;change Fin ..;refine sO hT (by rfl) (bU ?_);simp only [band,Bool.and_eq_true,Bool.and_eq_false_iff,decide_eq_true_eq,decide_eq_false_iff_not,beq_iff_eq,beq_eq_false_iff_ne]at *
              unfold dG
              all_goals (repeat (first | rfl | (rw [if_neg (by omega)]) | (rw [if_pos (by omega)])))
             ·refine sg rfl ?_;refine cd rfl (fun h25=>?_) (fun h25=>?_)
              ·refine sg rfl ?_;refine WP.ret ?_;change Fin ..;refine sO hT (by rfl) (bU ?_);simp only [band,Bool.and_eq_true,Bool.and_eq_false_iff,decide_eq_true_eq,decide_eq_false_iff_not,beq_iff_eq,beq_eq_false_iff_ne]at *
               unfold dG
               all_goals (repeat (first | rfl | (rw [if_neg (by omega)]) | (rw [if_pos (by omega)])))
              ·refine sg rfl ?_;refine cd rfl (fun h27=>?_) (fun h27=>?_)
               ·refine sg rfl ?_;refine WP.ret ?_;change Fin ..;refine sO hT (by rfl) (bU ?_);simp only [band,Bool.and_eq_true,Bool.and_eq_false_iff,decide_eq_true_eq,decide_eq_false_iff_not,beq_iff_eq,beq_eq_false_iff_ne]at *
                unfold dG
                all_goals (repeat (first | rfl | (rw [if_neg (by omega)]) | (rw [if_pos (by omega)])))
               ·refine sq (sq (rg [] rfl ?_));refine cd rfl (fun h29=>?_) (fun h29=>?_)
                ·refine sk ?_;refine cd rfl (fun h29=>?_) (fun h29=>?_)
                 ·refine sg rfl ?_;refine WP.ret ?_;change Fin ..;refine sO hT (by rfl) (bU ?_);simp only [band,Bool.and_eq_true,Bool.and_eq_false_iff,decide_eq_true_eq,decide_eq_false_iff_not,beq_iff_eq,beq_eq_false_iff_ne]at *
                  unfold dG
                  all_goals (repeat (first | rfl | (rw [if_neg (by omega)]) | (rw [if_pos (by omega)])))
                 ·simp_all
                ·refine rg [] rfl ?_;refine cd rfl (fun h30=>?_) (fun h30=>?_)
                 ·refine sg rfl ?_;refine WP.ret ?_;change Fin ..;refine sO hT (by rfl) (bU ?_);simp only [band,Bool.and_eq_true,Bool.and_eq_false_iff,decide_eq_true_eq,decide_eq_false_iff_not,beq_iff_eq,beq_eq_false_iff_ne]at *
                  unfold dG
                  all_goals (repeat (first | rfl | (rw [if_neg (by omega)]) | (rw [if_pos (by omega)])))
                 ·refine sg rfl ?_;refine cd rfl (fun h32=>?_) (fun h32=>?_)
                  ·refine sg rfl ?_;refine WP.ret ?_;change Fin ..;refine sO hT (by rfl) (bU ?_);simp only [band,Bool.and_eq_true,Bool.and_eq_false_iff,decide_eq_true_eq,decide_eq_false_iff_not,beq_iff_eq,beq_eq_false_iff_ne]at *
                   unfold dG
                   all_goals (repeat (first | rfl | (rw [if_neg (by omega)]) | (rw [if_pos (by omega)])))
                  ·refine sg rfl ?_;refine cd rfl (fun h34=>?_) (fun h34=>?_)
                   ·refine sg rfl ?_;refine WP.ret ?_;change Fin ..;refine sO hT (by rfl) (bU ?_);simp only [band,Bool.and_eq_true,Bool.and_eq_false_iff,decide_eq_true_eq,decide_eq_false_iff_not,beq_iff_eq,beq_eq_false_iff_ne]at *
                    unfold dG
                    all_goals (repeat (first | rfl | (rw [if_neg (by omega)]) | (rw [if_pos (by omega)])))
                   ·refine sg rfl ?_;refine cd rfl (fun h36=>?_) (fun h36=>?_)
                    ·refine sg rfl ?_;refine WP.ret ?_;change Fin ..;refine sO hT (by rfl) (bU ?_);simp only [band,Bool.and_eq_true,Bool.and_eq_false_iff,decide_eq_true_eq,decide_eq_false_iff_not,beq_iff_eq,beq_eq_false_iff_ne]at *
                     unfold dG
                     all_goals (repeat (first | rfl | (rw [if_neg (by omega)]) | (rw [if_pos (by omega)])))
                    ·refine sg rfl ?_;refine cd rfl (fun h38=>?_) (fun h38=>?_)
                     ·refine sg rfl ?_;refine WP.ret ?_;change Fin ..;refine sO hT (by rfl) (bU ?_);simp only [band,Bool.and_eq_true,Bool.and_eq_false_iff,decide_eq_true_eq,decide_eq_false_iff_not,beq_iff_eq,beq_eq_false_iff_ne]at *
                      unfold dG
                      all_goals (repeat (first | rfl | (rw [if_neg (by omega)]) | (rw [if_pos (by omega)])))
                     ·refine sg rfl ?_;refine cd rfl (fun h40=>?_) (fun h40=>?_)
                      ·refine sg rfl ?_;refine WP.ret ?_;change Fin ..;refine sO hT (by rfl) (bU ?_);simp only [band,Bool.and_eq_true,Bool.and_eq_false_iff,decide_eq_true_eq,decide_eq_false_iff_not,beq_iff_eq,beq_eq_false_iff_ne]at *
                       unfold dG
                       all_goals (repeat (first | rfl | (rw [if_neg (by omega)]) | (rw [if_pos (by omega)])))
                      ·refine sg rfl ?_;refine cd rfl (fun h42=>?_) (fun h42=>?_)
                       ·refine sg rfl ?_;refine WP.ret ?_;change Fin ..;refine sO hT (by rfl) (bU ?_);simp only [band,Bool.and_eq_true,Bool.and_eq_false_iff,decide_eq_true_eq,decide_eq_false_iff_not,beq_iff_eq,beq_eq_false_iff_ne]at *
                        unfold dG
                        all_goals (repeat (first | rfl | (rw [if_neg (by omega)]) | (rw [if_pos (by omega)])))
                       ·refine sg rfl ?_;refine cd rfl (fun h44=>?_) (fun h44=>?_)
                        ·refine sg rfl ?_;refine WP.ret ?_;change Fin ..;refine sO hT (by rfl) (bU ?_);simp only [band,Bool.and_eq_true,Bool.and_eq_false_iff,decide_eq_true_eq,decide_eq_false_iff_not,beq_iff_eq,beq_eq_false_iff_ne]at *
                         unfold dG
                         all_goals (repeat (first | rfl | (rw [if_neg (by omega)]) | (rw [if_pos (by omega)])))
                        ·refine sk (sq (rg [] rfl ?_));refine WP.ret ?_;change Fin ..;refine sO hT (by rfl) (bU ?_);simp only [band,Bool.and_eq_true,Bool.and_eq_false_iff,decide_eq_true_eq,decide_eq_false_iff_not,beq_iff_eq,beq_eq_false_iff_ne]at *
                         unfold dG
                         all_goals (repeat (first | rfl | (rw [if_neg (by omega)]) | (rw [if_pos (by omega)])))
def Ey (op:Int):Bool:=(decide (op≥1)&&decide (op≤36))||(decide (op≥40)&&decide (op≤45))
def PU (op:Int):Bool:=decide (op≥50)&&decide (op≤65)
def opL (x:kE):List Int:=[x.a,x.b,x.c,x.n]
def opA (x:kE):AV:=mQ 54 4 .i64 (opL x)
theorem yJ {Q:List UInt8→Prop} (op:Int) (h0:1≤op∧op≤15→Q [114,114,45,45]) (h1:16≤op∧op≤36→Q [114,114,114,45]) (h2:op=40∨op=44∨op=65→Q [114,45,45,110]) (h3:op=41→Q [114,114,45,45]) (h4:op=42→Q [116,45,45,45]) (h5:op=43→Q [114,116,45,45]) (h6:op=45∨op=64→Q [45,45,45,45]) (h7:op=50→Q [114,118,45,45]) (h8:op=51→Q [118,114,45,45]) (h9:op=52→Q [111,97,114,45]) (h10:op=53→Q [114,97,114,119]) (h11:op=54→Q [97,114,45,45]) (h12:op=55∨op=56→Q [108,45,45,45]) (h13:op=57→Q [114,108,45,45]) (h14:op=58→Q [99,114,45,45]) (h15:op=59→Q [111,99,111,45]) (h16:op=60→Q [99,45,45,45]) (h17:op=61→Q [115,45,45,45]) (h18:op=62→Q [111,102,112,45]) (h19:op=63→Q [114,45,45,45]) (hn:¬ (1≤op∧op≤36)∧¬ (40≤op∧op≤45)∧¬ (50≤op∧op≤65)→Q []):Q (dG op):=by
 unfold dG;by_cases c0:1≤op∧op≤15
 ·rw [if_pos c0];exact h0 c0
 rw [if_neg c0];by_cases c1:16≤op∧op≤36
 ·rw [if_pos c1];exact h1 c1
 rw [if_neg c1];by_cases c2:op=40∨op=44∨op=65
 ·rw [if_pos c2];exact h2 c2
 rw [if_neg c2];by_cases c3:op=41
 ·rw [if_pos c3];exact h3 c3
 rw [if_neg c3];by_cases c4:op=42
 ·rw [if_pos c4];exact h4 c4
 rw [if_neg c4];by_cases c5:op=43
 ·rw [if_pos c5];exact h5 c5
 rw [if_neg c5];by_cases c6:op=45∨op=64
 ·rw [if_pos c6];exact h6 c6
 rw [if_neg c6];by_cases c7:op=50
 ·rw [if_pos c7];exact h7 c7
 rw [if_neg c7];by_cases c8:op=51
 ·rw [if_pos c8];exact h8 c8
 rw [if_neg c8];by_cases c9:op=52
 ·rw [if_pos c9];exact h9 c9
 rw [if_neg c9];by_cases c10:op=53
 ·rw [if_pos c10];exact h10 c10
 rw [if_neg c10];by_cases c11:op=54
 ·rw [if_pos c11];exact h11 c11
 rw [if_neg c11];by_cases c12:op=55∨op=56
 ·rw [if_pos c12];exact h12 c12
 rw [if_neg c12];by_cases c13:op=57
 ·rw [if_pos c13];exact h13 c13
 rw [if_neg c13];by_cases c14:op=58
 ·rw [if_pos c14];exact h14 c14
 rw [if_neg c14];by_cases c15:op=59
 ·rw [if_pos c15];exact h15 c15
 rw [if_neg c15];by_cases c16:op=60
 ·rw [if_pos c16];exact h16 c16
 rw [if_neg c16];by_cases c17:op=61
 ·rw [if_pos c17];exact h17 c17
 rw [if_neg c17];by_cases c18:op=62
 ·rw [if_pos c18];exact h18 c18
 rw [if_neg c18];by_cases c19:op=63
 ·rw [if_pos c19];exact h19 c19
 rw [if_neg c19];exact hn (by omega)
theorem Qo (x:kE):(AV.agg 54 4 fun q=>bif Nat.beq q 3 then .int x.n else bif Nat.beq q 2 then .int x.c else bif Nat.beq q 1 then .int x.b else bif Nat.beq q 0 then .int x.a else .int 0)=opA x:=aW (fun q=>by match q with | 0 | 1 | 2 | 3 | q+4=>rfl)
theorem LK {op:Int} (h:dG op≠[]):(dG op).length=4:=by
 revert h;refine yJ (Q:=fun l=>l≠[]→l.length=4) op ?_ ?_ ?_ ?_ ?_ ?_ ?_ ?_ ?_ ?_ ?_ ?_ ?_ ?_ ?_ ?_ ?_ ?_ ?_ ?_ ?_
 all_goals (intro _ h;first | rfl | exact absurd rfl h)
def yF (op:Int) (k:Nat):Int:=byteAt (nX op) k
theorem Ns (op:Int) (k:Nat):yF op k=(((dG op)[k]?.getD 0).toNat:Nat):=by
 unfold yF byteAt nX;congr 2;by_cases h:k<(dG op).length
 ·have h1:k<(⟨(dG op).toArray⟩:ByteArray).size:=by simpa [ByteArray.size]using h
  rw [getElem?_pos (⟨(dG op).toArray⟩:ByteArray) k h1,getElem?_pos (dG op) k h];rfl
 ·have h1:¬ k<(⟨(dG op).toArray⟩:ByteArray).size:=by simpa [ByteArray.size]using h
  rw [getElem?_neg (⟨(dG op).toArray⟩:ByteArray) k h1,getElem?_neg (dG op) k h]
theorem OA {op:Int} {k:Nat} (h:yF op k=112):k=2∧yF op 1=102:=by
 rw [Ns]at h ⊢;revert h;refine yJ (Q:=fun l=>((l[k]?.getD 0).toNat:Int)=112→k=2∧((l[1]?.getD 0).toNat:Int)=102) op ?_ ?_ ?_ ?_ ?_ ?_ ?_ ?_ ?_ ?_ ?_ ?_ ?_ ?_ ?_ ?_ ?_ ?_ ?_ ?_ ?_
 all_goals (intro _ h;match k,h with
  | 0,h | 1,h | 2,h | 3,h=>first | exact ⟨rfl,rfl⟩ | (exact absurd h (by decide))
  | k+4,h=>exact absurd h (by simp))
def Gv (p:Nat→Bool):Nat→Bool
 | 0=>false
 | i+1=>Gv p i||p i
theorem Bz {p:Nat→Bool} {i:Nat} (h:p i=true):∀ {n:Nat},i<n→Gv p n=true
 | n+1,hn=>by
  rw [Gv,Bool.or_eq_true];by_cases e:i=n
  ·subst e;exact .inr h
  ·exact .inl (Bz h (by omega))
theorem JH (b:ByteArray):∀ (n i:Nat) (r:List UInt8),b.size - i=n→(ByteArray.toList.loop b i r).length=r.length+(b.size - i)
 | 0,i,r,h=>by
  unfold ByteArray.toList.loop;rw [if_neg (by omega),List.length_reverse];omega
 | n+1,i,r,h=>by
  unfold ByteArray.toList.loop;rw [if_pos (by omega),JH b n (i+1) _ (by omega),List.length_cons];omega
theorem ND (b:ByteArray):b.toList.length=b.size:=by
 unfold ByteArray.toList;have:=JH b _ 0 [] rfl
 simpa using this
theorem LM {op:Int} (h:((nX op).toList==(⟨#[]⟩:ByteArray).toList)=true):dG op=[]:=by
 have h1:(nX op).toList=(⟨#[]⟩:ByteArray).toList:=by simpa using h
 have h2:=congrArg List.length h1;rw [ND,ND]at h2;have h3:(dG op).length=0:=by simpa [nX,ByteArray.size]using h2
 exact List.eq_nil_of_length_eq_zero h3
theorem LJ {op:Int} (h:((nX op).toList==(⟨#[]⟩:ByteArray).toList)=false):dG op≠[]:=by
 intro e;have:nX op=⟨#[]⟩:=by rw [nX,e]
 rw [this]at h;simp at h
def unB (x:kE) (k:Nat):Bool:=yF x.op k==45&&(opL x).getD k 0 != 0
def oN (p:ay) (f:iW) (x:kE):Nat→Int
 | 0=>0
 | k+1=>if oN p f x k≠0 then oN p f x k else bT p f (yF x.op k) ((opL x).getD k 0) x
def jI (p:ay) (f:iW) (x:kE):Int :=
 if dG x.op=[]then 33 else if Gv (unB x) 4 then 34 else oN p f x 4
theorem Jb {op:Int} (h:dG op≠[]):(nX op).size=4:=by
 have:=LK h;simpa [nX,ByteArray.size]using this
theorem Bg {p:ay} {f:iW} {x:kE} {k:Nat} (h:oN p f x k=0) (hb:bT p f (yF x.op k) ((opL x).getD k 0) x≠0):∀ {n:Nat},k<n→oN p f x n=bT p f (yF x.op k) ((opL x).getD k 0) x
 | n+1,hn=>by
  by_cases e:k=n
  ·subst e;rw [oN,h,if_neg (by simp)]
  ·have ih:=Bg h hb (n:=n) (by omega);rw [oN,ih,if_pos hb]
theorem Qk {p:ay} {f:iW} {x:kE} {k:Nat} (h:oN p f x k=0) (hc:yF x.op k=112):0≤x.b∧x.b<p.funcs.length:=by
 obtain ⟨rfl,h1⟩:=OA hc;have h2:bT p f (yF x.op 1) ((opL x).getD 1 0) x=0:=by
  have e:oN p f x 2=if oN p f x 1≠0 then oN p f x 1 else bT p f (yF x.op 1) ((opL x).getD 1 0) x:=rfl
  rw [e]at h;split at h
  ·rename_i hne;exact absurd h hne
  ·exact h
 rw [h1]at h2;exact lX h2
theorem Ce (x:kE):AC Tryz.prog T aV 216 [aQ x] [] (opA x) []:=by
 refine aA hT Tryz.func216 rfl rfl (Nat.le_of_ble_eq_true rfl) ?_;refine sg rfl ?_;refine sg rfl ?_;refine WP.ret ?_;change Fin ..;refine Fin.ent (Ent.mk (P:=Tryz.prog) hT [] (ts:=[(2,.ptr (.s 2 0) 1 0 [])]) (ms:=[(.s 2 0,.cells ⟨54,1,fun _=>opA x,0⟩)]) trivial ⟨⟨rfl,_,rfl,ah rfl⟩,tt⟩ ⟨⟨fun _ _=>Iw (fun _ _=>rfl),.inl ⟨_,rfl,_,_,rfl,Nat.le_refl _,Nat.zero_le _,Nat.zero_le _,fun q hq=>by (obtain rfl:q=0:=(by simp at hq;exact hq));exact ah (Qo x)⟩⟩,tt⟩ rfl) ?_;refine aH hT [(.s 2 0,1)] (ts:=[(2,.rp 54 (opA x))]) (l:=[opA x]) ⟨⟨_,rfl,Nat.le_refl _⟩,tt⟩ ⟨⟨rfl,_,rfl,eY rfl rfl (by simp [eH,aN]) rfl rfl FZ⟩,tt⟩ trivial rfl rfl rfl
theorem Lj (p:ay) (f:iW) (x:kE):AC Tryz.prog T aV 157 [.rp 257 (vM p f),aQ x] [] (.int (jI p f x)) []:=by
 refine aA hT Tryz.func157 rfl rfl (Nat.le_of_ble_eq_true rfl) ?_;refine sg rfl ?_;refine sq (rgs [CG.pure (.v (.string (nX x.op)))] rfl ?_ ?_)
 ·have hf:=OQ x.op;simp [aj,under,CG.pure];exact hf
 refine sq (sq (rg [] rfl ?_));refine cd rfl (fun h2=>?_) (fun h2=>?_)
 ·have hno:dG x.op=[]:=LM h2;refine sg rfl ?_;exact WP.ret (dQ hT (by rfl) (by rw [jI,if_pos hno]))
 ·have hne:dG x.op≠[]:=LJ h2;have hsz:=Jb hne
  refine sk (sq (rgs [CG.pure (opA x)] rfl ?_ ?_))
  ·have ho:=Ce x;simp [aj,under,CG.pure];exact ho
  refine sq (sq (rg [] rfl ?_));refine bk ?_;refine WP.loop (α:=Nat) (fun k=>aP [(0,.rp 257 (vM p f)),(3,.rp 120 (aQ x)),(5,.v (.string (nX x.op))),(6,.rp 54 (opA x)),(19,opA x),(20,.int k)] []) (fun k=>k≤4∧Gv (unB x) k=false) (fun k=>4 - k) ?_ ?_
  ·refine ⟨0,?_,?_⟩
   ·exact ⟨Nat.zero_le _,rfl⟩
   ·refine em [(.s 3 0,1),(.s 6 0,1)] ⟨⟨_,rfl,Nat.le_refl _⟩,⟨_,rfl,Nat.le_refl _⟩,tt⟩ ⟨cq,⟨rfl,_,rfl,eY rfl rfl (by decide) rfl rfl rfl⟩,cq,⟨rfl,_,rfl,eY rfl rfl (by decide) rfl rfl rfl⟩,cq,cq,tt⟩ trivial
  ·rintro k ⟨hk,hn⟩;refine sg rfl ?_;refine sq ?_;refine cd rfl (fun h6=>?_) (fun h6=>?_)
   ·have hk4:k<4:=by simp at h6;omega
    refine sk (sq (bk (sq (rgs [] rfl ?_ ?_))))
    ·simp [aj,under];omega
    refine sq (rgs [] rfl ?_ ?_)
    ·simp [aj,under,hsz];omega
    refine cd rfl (fun h8=>?_) (fun h8=>?_)
    ·have hb:unB x k=true:=by
      have e:(bif yF x.op k==45 then (opL x).getD k 0 != 0 else false)=true:=h8
      rwa [band]at e
     refine sg rfl ?_;exact WP.ret (dQ hT (by rfl) (by rw [jI,if_neg hne,Bz hb hk4,if_pos rfl]))
    ·have hb:unB x k=false:=by
      have e:(bif yF x.op k==45 then (opL x).getD k 0 != 0 else false)=false:=h8
      rwa [band]at e
     refine sk (rg [] rfl ?_);refine ⟨k+1,?_,?_,?_⟩
     ·exact ⟨hk4,by rw [Gv,hn,hb];rfl⟩
     ·refine em [] trivial ⟨cq,cq,cq,cq,cq,cq,tt⟩ trivial
     ·(try simp only []);first | omega | grind
   ·have hk4:k=4:=by simp at h6;omega
    subst hk4;refine xt (sq (sq (rg [] rfl ?_)));refine bk ?_;refine WP.loop (α:=Nat) (fun k=>aP [(0,.rp 257 (vM p f)),(3,.rp 120 (aQ x)),(5,.v (.string (nX x.op))),(33,opA x),(34,.int k)] []) (fun k=>k≤4∧oN p f x k=0) (fun k=>4 - k) ?_ ?_
    ·refine ⟨0,?_,?_⟩
     ·exact ⟨Nat.zero_le _,rfl⟩
     ·refine em [] trivial ⟨cq,cq,cq,cq,cq,tt⟩ trivial
    ·rintro k ⟨hk,he⟩;refine sg rfl ?_;refine sq ?_;refine cd rfl (fun h12=>?_) (fun h12=>?_)
     ·have hk4:k<4:=by simp at h12;omega
      refine sk (sq (bk (sq (rgs [] rfl ?_ ?_))))
      ·simp [aj,under];omega
      refine sq (drs [CG.pure (.int (bT p f (yF x.op k) ((opL x).getD k 0) x))] rfl ?_ ?_)
      ·have ho:=FQ p f (yF x.op k) ((opL x).getD k 0) x (fun hc=>Qk he hc);have hk2:k<(nX x.op).size:=by omega
       refine ⟨⟨by omega,by omega⟩,?_⟩;exact ho
      refine sg rfl ?_;refine cd rfl (fun h15=>?_) (fun h15=>?_)
      ·have hb:bT p f (yF x.op k) ((opL x).getD k 0) x≠0:=by simpa using h15
       refine sg rfl ?_;refine WP.ret ?_;change Fin ..;refine dQ hT (by rfl) ?_;rw [jI,if_neg hne,hn,if_neg (by simp),Bg he hb hk4]
      ·have hb:bT p f (yF x.op k) ((opL x).getD k 0) x=0:=by simpa using h15
       refine sk (rg [] rfl ?_);refine ⟨k+1,?_,?_,?_⟩
       ·exact ⟨hk4,by rw [oN,he,if_neg (by simp)];exact hb⟩
       ·refine em [] trivial ⟨cq,cq,cq,cq,cq,tt⟩ trivial
       ·(try simp only []);first | omega | grind
     ·have hk4:k=4:=by simp at h12;omega
      subst hk4;refine xt (sq (rg [] rfl ?_));refine WP.ret ?_;change Fin ..;exact dQ hT (by rfl) (by rw [jI,if_neg hne,hn];simp [he])
def CY {α:Type} (g:α→Int):List α→Int
 | []=>0
 | x::r=>if g x≠0 then g x else CY g r
theorem uZ {α:Type} {g:α→Int} {d:α}:∀ {l:List α} {i:Nat},i<l.length→(∀ j,j<i→g (l.getD j d)=0)→g (l.getD i d)≠0→CY g l=g (l.getD i d)
 | x::r,0,_,_,hb=>by
  have hb':g x≠0:=hb;rw [CY,if_pos hb'];rfl
 | x::r,i+1,hi,hn,hb=>by
  have h0:=hn 0 (by omega);rw [CY,if_neg (by simpa using h0)];exact uZ (l:=r) (i:=i) (by simpa using hi) (fun j hj=>hn (j+1) (by omega)) hb
theorem kL {α:Type} {g:α→Int} {d:α}:∀ {l:List α},(∀ j,j<l.length→g (l.getD j d)=0)→CY g l=0
 | [],_=>rfl
 | x::r,hn=>by
  have h0:=hn 0 (by simp);rw [CY,if_neg (by simpa using h0)];exact kL (l:=r) (fun j hj=>hn (j+1) (by simpa using hj))
def szB (p:ay):Bool:=decide ((p.vars.length:Int)>8)||decide (p.locks<0)||decide (p.locks>4)||decide ((p.chans.length:Int)>4)||decide ((p.funcs.length:Int)<1)||decide ((p.funcs.length:Int)>8)
def JE (n:Int):Int:=if decide (n<0)||decide (n>4)then 31 else 0
def jV (p:ay):Int:=if szB p then 30 else CY JE p.chans
theorem iF {P:Nat→Prop} {i:Nat} (h:∀ j,j<i→P j) (hi:P i):∀ j,j<i+1→P j:=fun j hj=>by
 rcases Nat.lt_or_ge j i with h1 | h1
 ·exact h j h1
 ·obtain rfl:j=i:=by omega
  exact hi
theorem J4 (p:ay):AC Tryz.prog T aV 154 [aC p] [] (.int (jV p)) []:=by
 refine aA hT Tryz.func154 rfl rfl (Nat.le_of_ble_eq_true rfl) ?_;refine sg rfl ?_;refine sq (sq (rg [] rfl ?_));refine cd rfl (fun h1=>?_) (fun h1=>?_)
 ·have hb:szB p=true:=by
   simp only [bor]at h1;exact h1
  refine sg rfl ?_;exact WP.ret (dQ hT (by rfl) (by rw [jV,if_pos hb]))
 ·have hb:szB p=false:=by
   simp only [bor]at h1;exact h1
  have hcl:p.chans.length≤4:=by
   simp [szB]at hb;omega
  refine sk (sq (sq (rg [] rfl ?_)));refine bk ?_;refine WP.loop (α:=Nat) (fun i=>aP [(38,ints false p.chans),(39,.int p.chans.length),(40,.int i)] []) (fun i=>i≤p.chans.length ∧ ∀ j,j<i→JE (p.chans.getD j 0)=0) (fun i=>p.chans.length - i) ?_ ?_
  ·refine ⟨0,?_,?_⟩
   ·exact ⟨Nat.zero_le _,fun j hj=>by omega⟩
   ·refine em [] trivial ⟨cq,cq,cq,tt⟩ trivial
  ·rintro i ⟨hi,hn⟩;refine sg rfl ?_;refine sq ?_;refine cd rfl (fun h4=>?_) (fun h4=>?_)
   ·have hil:i<p.chans.length:=by simpa using h4
    refine sk (sq (bk (sq (rgs [] rfl ?_ ?_))))
    ·simp [aj,under];omega
    refine sg rfl ?_;refine cd rfl (fun h6=>?_) (fun h6=>?_)
    ·have hx:JE (p.chans.getD i 0)=31:=by
      simp only [bor]at h6;exact if_pos h6
     refine sg rfl ?_;refine WP.ret ?_;change Fin ..;exact dQ hT (by rfl) (by rw [jV,hb,if_neg (by simp),uZ hil hn (by rw [hx];decide),hx])
    ·have hx:JE (p.chans.getD i 0)=0:=by
      simp only [bor]at h6;exact if_neg (by rw [show (decide (p.chans.getD i 0<0)||decide (p.chans.getD i 0>4))=false from h6];decide)
     refine sk (rg [] rfl ?_);refine ⟨i+1,?_,?_,?_⟩
     ·exact ⟨hil,iF hn hx⟩
     ·refine em [] trivial ⟨cq,cq,cq,tt⟩ trivial
     ·(try simp only []);first | omega | grind
   ·have hil:i=p.chans.length:=by simp at h4;omega
    subst hil;refine xt (sq (rg [] rfl ?_));exact WP.ret (dQ hT (by rfl) (by rw [jV,hb,if_neg (by simp),kL hn]))
def szF (f:iW) (main:Bool):Bool:=(decide (f.regs≥0)&&decide (f.regs≤8)&&decide (f.params≥0)&&decide (f.params≤f.regs) && !(main&&decide (f.params>0)))&&decide ((f.code.length:Int)≥1)&&decide ((f.code.length:Int)≤64)&&decide ((f.sels.length:Int)≤4)
theorem tK {f:iW} {main:Bool}:szF f main=true↔0≤f.regs∧f.regs≤8∧0≤f.params∧f.params≤f.regs∧¬ (main=true∧f.params>0)∧(f.code.length:Int)≥1∧(f.code.length:Int)≤64∧(f.sels.length:Int)≤4:=by
 simp only [szF,Bool.and_eq_true,decide_eq_true_eq,Bool.not_eq_true',Bool.and_eq_false_iff,decide_eq_false_iff_not];cases main <;> simp <;> omega
theorem not_true {b:Bool} (h:¬ b=true):b=false:=by simpa using h
def Py (s:y8):Bool:=decide ((s.cases.length:Int)≥1)&&decide ((s.cases.length:Int)≤4)
def vY (f:iW):Nat→Bool
 | 0=>true
 | i+1=>vY f i&&Py (f.sels.getD i JW)
def fZ (f:iW) (main:Bool):Bool:=szF f main&&vY f f.sels.length
theorem Kv (f:iW) (main:Bool):AC Tryz.prog T aV 155 [lG f,.bool main] [] (.int (if fZ f main then 0 else 32)) []:=by
 refine aA hT Tryz.func155 rfl rfl (Nat.le_of_ble_eq_true rfl) ?_;refine sg rfl ?_;refine sg rfl ?_;refine sg rfl ?_;refine sq (sq (rg [] rfl ?_));refine WP.rowlen 57 rfl (fun hl57=>?_);refine bk ?_;refine WP.loop (α:=Nat×Bool) (fun (⟨i,ok⟩:Nat×Bool)=>aP [(5,.bool ok),(57,rowP 103 lF JW f.sels),(58,.int f.sels.length),(59,.int i)] []) (fun (⟨i,ok⟩:Nat×Bool)=>i≤f.sels.length∧ok=(szF f main&&vY f i)) (fun (⟨i,ok⟩:Nat×Bool)=>f.sels.length - i) ?_ ?_
 ·refine ⟨(0,szF f main),?_,?_⟩
  ·exact ⟨Nat.zero_le _,by simp [vY]⟩
  ·refine em [] trivial ⟨⟨rfl,_,rfl,ah (by simp only [band];rfl)⟩,cq,cq,cq,tt⟩ trivial
 ·rintro ⟨i,ok⟩ ⟨hi,hok⟩;refine sg rfl ?_;refine sq ?_;refine cd rfl (fun h4=>?_) (fun h4=>?_)
  ·have hil:i<f.sels.length:=by simpa using h4
   refine sk (sq (bk (sq (rgs [] rfl ?_ ?_))))
   ·simp [aj,under];omega
   refine rg [] rfl ?_;refine rg [] rfl ?_;refine ⟨(i+1,szF f main&&vY f (i+1)),?_,?_,?_⟩
   ·exact ⟨hil,rfl⟩
   ·refine em [] trivial ⟨⟨rfl,_,rfl,ah (by simp only [band];rw [hok,vY,Py];simp only [Bool.and_assoc];rfl)⟩,cq,cq,cq,tt⟩ trivial
   ·(try simp only []);first | omega | grind
  ·have hil:i=f.sels.length:=by simp at h4;omega
   subst hil;refine xt (sq (sq (rg [] rfl ?_)));refine cd rfl (fun h8=>?_) (fun h8=>?_)
   ·have ho:fZ f main=false:=by rw [fZ,← hok];simpa using h8
    refine sg rfl ?_;refine WP.ret ?_;change Fin ..;exact dQ hT (by rfl) (by rw [ho];rfl)
   ·have ho:fZ f main=true:=by rw [fZ,← hok];simpa using h8
    refine sk (sq (rg [] rfl ?_));refine WP.ret ?_;change Fin ..;exact dQ hT (by rfl) (by rw [ho];rfl)
theorem xW {f:iW}:∀ {n:Nat},vY f n=true → ∀ i,i<n→Py (f.sels.getD i JW)=true
 | n+1,h,i,hi=>by
  rw [vY,Bool.and_eq_true]at h;by_cases e:i=n
  ·subst e;exact h.2
  ·exact xW h.1 i (by omega)
def pO (p:ay) (f:iW) (c:vU):Int :=
 if jr c.chan p.chans.length≠0 then 36 else if (c.send||c.reg != -1)=true∧yg f c.reg≠0 then 35 else
 if (c.send&&p.chans.getD c.chan.toNat 0==0)=true then 37 else wJ f c.to
def Gm (f:iW) (s:y8):Int:=if s.els ≠ -1 then wJ f s.els else 0
def JV (p:ay) (f:iW) (s:y8):Int:=if CY (pO p f) s.cases≠0 then CY (pO p f) s.cases else Gm f s
def uw (p:ay) (f:iW):Int:=CY (JV p f) f.sels
abbrev aX (f:iW) (i:Nat):y8:=f.sels.getD i JW
abbrev aG (s:y8) (k:Nat):vU:=s.cases.getD k Dy
theorem kV {p:ay} {f:iW} {s:y8} {k:Nat} {e:Int} (hk:k<s.cases.length) (hn:∀ j,j<k→pO p f (aG s j)=0) (he:pO p f (aG s k)=e) (h0:e≠0):JV p f s=e:=by
 subst he;have:=uZ hk hn h0
 rw [JV,this,if_pos h0]
theorem jX {p:ay} {f:iW} {i:Nat} {e:Int} (hi:i<f.sels.length) (hn:∀ j,j<i→JV p f (aX f j)=0) (he:JV p f (aX f i)=e) (h0:e≠0):uw p f=e:=by
 subst he;rw [uw,uZ hi hn h0]
theorem KX {n m:Int} (h:jr n m≠0):jr n m=36:=by
 unfold jr at h ⊢;split
 ·rename_i hw;rw [if_pos hw]at h;exact absurd rfl h
 ·rfl
theorem KD {f:iW} {n:Int} (h:yg f n≠0):yg f n=35:=by
 unfold yg at h ⊢;split
 ·rename_i hw;rw [if_pos hw]at h;exact absurd rfl h
 ·rfl
theorem Fv (p:ay) (f:iW) (m:Bool) (hf:fZ f m=true):AC Tryz.prog T aV 156 [.rp 257 (vM p f)] [] (.int (uw p f)) []:=by
 refine aA hT Tryz.func156 rfl rfl (Nat.le_of_ble_eq_true rfl) ?_;have hsz:szF f m=true:=by rw [fZ,Bool.and_eq_true]at hf;exact hf.1
 have hst:vY f f.sels.length=true:=by rw [fZ,Bool.and_eq_true]at hf;exact hf.2
 rw [tK]at hsz;refine sg rfl ?_;refine sq (sq (rg [] rfl ?_));refine bk ?_;refine WP.loop (α:=Nat) (fun i=>aP [(0,.rp 257 (vM p f)),(15,rowP 103 lF JW f.sels),(16,.int f.sels.length),(17,.int i)] []) (fun i=>i≤f.sels.length ∧ ∀ j,j<i→JV p f (aX f j)=0) (fun i=>f.sels.length - i) ?_ ?_
 ·refine ⟨0,?_,?_⟩
  ·exact ⟨Nat.zero_le _,fun j hj=>by omega⟩
  ·refine em [] trivial ⟨cq,cq,cq,cq,tt⟩ trivial
 ·rintro i ⟨hi,hn⟩;refine sg rfl ?_;refine sq ?_;refine cd rfl (fun h2=>?_) (fun h2=>?_)
  ·have hil:i<f.sels.length:=by simpa using h2
   have hsb:=xW hst i hil;have hcl:(aX f i).cases.length≤4:=by
    simp only [Py,Bool.and_eq_true,decide_eq_true_eq]at hsb;simp only [aX];omega
   refine sk (sq (bk (sq (rgs [] rfl ?_ ?_))))
   ·simp [aj,under];omega
   refine sq (sq (rg [] rfl ?_));refine bk ?_;refine WP.loop (α:=Nat) (fun k=>aP [(0,.rp 257 (vM p f)),(4,.rp 103 (lF (aX f i))),(15,rowP 103 lF JW f.sels),(16,.int f.sels.length),(17,.int i),(22,rowP 215 pK Dy (aX f i).cases),(23,.int (aX f i).cases.length),(24,.int k)] []) (fun k=>k≤(aX f i).cases.length ∧ ∀ j,j<k→pO p f (aG (aX f i) j)=0) (fun k=>(aX f i).cases.length - k) ?_ ?_
   ·refine ⟨0,?_,?_⟩
    ·exact ⟨Nat.zero_le _,fun j hj=>by omega⟩
    ·refine em [(.s 4 0,1)] ⟨⟨_,rfl,Nat.le_refl _⟩,tt⟩ ⟨cq,⟨rfl,_,rfl,eY rfl rfl (by decide) rfl rfl rfl⟩,cq,cq,cq,cq,cq,cq,tt⟩ trivial
   ·rintro k ⟨hk,hc⟩;refine sg rfl ?_;refine sq ?_;refine cd rfl (fun h5=>?_) (fun h5=>?_)
    ·have hkl:k<(aX f i).cases.length:=by simpa using h5
     refine sk (sq (bk (sq (rgs [] rfl ?_ ?_))))
     ·have hkl2:k<(f.sels[i]?.getD JW).cases.length:=hkl;simp [aj,under];omega
     refine sq (sq (drs [CG.pure (.int (jr (aG (aX f i) k).chan p.chans.length))] rfl ?_ ?_))
     ·have ho:=ku (aG (aX f i) k).chan p.chans.length;refine ⟨⟨rfl,rfl⟩,?_⟩;exact ho
     refine sg rfl ?_;refine cd rfl (fun h8=>?_) (fun h8=>?_)
     ·have hb:jr (aG (aX f i) k).chan p.chans.length≠0:=by simpa using h8
      refine sg rfl ?_;refine WP.ret ?_;change Fin ..;refine dQ hT (by rfl) ?_;rw [KX hb,jX hil hn (kV hkl hc (by rw [pO,if_pos hb]) (by decide)) (by decide)]
     ·have hb:jr (aG (aX f i) k).chan p.chans.length=0:=by simpa using h8
      have hch:=lX hb;refine sk (sq (sq (rg [] rfl ?_)));refine cd rfl (fun h10=>?_) (fun h10=>?_)
      ·have hsr:((aG (aX f i) k).send||(aG (aX f i) k).reg != -1)=true:=by
        have e:(bif (aG (aX f i) k).send then true else (aG (aX f i) k).reg != -1)=true:=h10
        rwa [bor]at e
       refine sq (rgs [CG.pure (.int (yg f (aG (aX f i) k).reg))] rfl ?_ ?_)
       ·have ho:=lQ p f (aG (aX f i) k).reg;refine ⟨⟨rfl,rfl⟩,?_⟩;exact ho
       refine sg rfl ?_;refine cd rfl (fun h12=>?_) (fun h12=>?_)
       ·have hr:yg f (aG (aX f i) k).reg≠0:=by simpa using h12
        refine sg rfl ?_;refine WP.ret ?_;change Fin ..;refine dQ hT (by rfl) ?_;rw [KD hr,jX hil hn (kV hkl hc (by rw [pO,if_neg (fun h=>h hb),if_pos ⟨hsr,hr⟩]) (by decide)) (by decide)]
       ·have hr:¬ (((aG (aX f i) k).send||(aG (aX f i) k).reg != -1)=true∧yg f (aG (aX f i) k).reg≠0):=fun h=>h.2 (by simpa using h12);refine sk (sq (sq (drs [] rfl ?_ ?_)))
        ·simp only [aX,aG,List.getD_eq_getElem?_getD]at hch;simp [aj,under];exact fun _=>hch
        refine cd rfl (fun h14=>?_) (fun h14=>?_)
        ·have hz:((aG (aX f i) k).send&&p.chans.getD (aG (aX f i) k).chan.toNat 0==0)=true:=by
          have e:(bif (aG (aX f i) k).send then p.chans.getD (aG (aX f i) k).chan.toNat 0==0 else false)=true:=h14
          rwa [band]at e
         refine sg rfl ?_;refine WP.ret ?_;change Fin ..;refine dQ hT (by rfl) ?_;rw [jX hil hn (kV hkl hc (by rw [pO,if_neg (fun h=>h hb),if_neg hr,if_pos hz]) (by decide)) (by decide)]
        ·have hz:¬ ((aG (aX f i) k).send&&p.chans.getD (aG (aX f i) k).chan.toNat 0==0)=true:=by
          have e:(bif (aG (aX f i) k).send then p.chans.getD (aG (aX f i) k).chan.toNat 0==0 else false)=false:=h14;rw [band]at e;rw [e];decide
         have hcf:pO p f (aG (aX f i) k)=wJ f (aG (aX f i) k).to:=by rw [pO,if_neg (fun h=>h hb),if_neg hr,if_neg hz]
         refine sk (sq (rgs [CG.pure (.int (wJ f (aG (aX f i) k).to))] rfl ?_ ?_))
         ·have ho:=pU p f (aG (aX f i) k).to;refine ⟨⟨rfl,rfl⟩,?_⟩;exact ho
         refine sg rfl ?_;refine cd rfl (fun h17=>?_) (fun h17=>?_)
         ·have ht:wJ f (aG (aX f i) k).to≠0:=by simpa using h17
          refine sg rfl ?_;refine WP.ret ?_;change Fin ..;refine dQ hT (by rfl) ?_;rw [jX hil hn (kV hkl hc hcf ht) ht]
         ·have ht:wJ f (aG (aX f i) k).to=0:=by simpa using h17
          refine sk (rg [] rfl ?_);refine ⟨k+1,?_,?_,?_⟩
          ·exact ⟨hkl,iF hc (by rw [hcf,ht])⟩
          ·refine em [] trivial ⟨cq,cq,cq,cq,cq,cq,cq,cq,tt⟩ trivial
          ·(try simp only []);first | omega | grind
      ·have hr:¬ (((aG (aX f i) k).send||(aG (aX f i) k).reg != -1)=true∧yg f (aG (aX f i) k).reg≠0):=by
        have e:(bif (aG (aX f i) k).send then true else (aG (aX f i) k).reg != -1)=false:=h10;rw [bor]at e;rw [e];simp
       refine sk (sq (sq (drs [] rfl ?_ ?_)))
       ·simp only [aX,aG,List.getD_eq_getElem?_getD]at hch;simp [aj,under];exact fun _=>hch
       refine cd rfl (fun h14=>?_) (fun h14=>?_)
       ·have hz:((aG (aX f i) k).send&&p.chans.getD (aG (aX f i) k).chan.toNat 0==0)=true:=by
         have e:(bif (aG (aX f i) k).send then p.chans.getD (aG (aX f i) k).chan.toNat 0==0 else false)=true:=h14
         rwa [band]at e
        refine sg rfl ?_;refine WP.ret ?_;change Fin ..;refine dQ hT (by rfl) ?_;rw [jX hil hn (kV hkl hc (by rw [pO,if_neg (fun h=>h hb),if_neg hr,if_pos hz]) (by decide)) (by decide)]
       ·have hz:¬ ((aG (aX f i) k).send&&p.chans.getD (aG (aX f i) k).chan.toNat 0==0)=true:=by
         have e:(bif (aG (aX f i) k).send then p.chans.getD (aG (aX f i) k).chan.toNat 0==0 else false)=false:=h14;rw [band]at e;rw [e];decide
        have hcf:pO p f (aG (aX f i) k)=wJ f (aG (aX f i) k).to:=by rw [pO,if_neg (fun h=>h hb),if_neg hr,if_neg hz]
        refine sk (sq (rgs [CG.pure (.int (wJ f (aG (aX f i) k).to))] rfl ?_ ?_))
        ·have ho:=pU p f (aG (aX f i) k).to;refine ⟨⟨rfl,rfl⟩,?_⟩;exact ho
        refine sg rfl ?_;refine cd rfl (fun h17=>?_) (fun h17=>?_)
        ·have ht:wJ f (aG (aX f i) k).to≠0:=by simpa using h17
         refine sg rfl ?_;refine WP.ret ?_;change Fin ..;refine dQ hT (by rfl) ?_;rw [jX hil hn (kV hkl hc hcf ht) ht]
        ·have ht:wJ f (aG (aX f i) k).to=0:=by simpa using h17
         refine sk (rg [] rfl ?_);refine ⟨k+1,?_,?_,?_⟩
         ·exact ⟨hkl,iF hc (by rw [hcf,ht])⟩
         ·refine em [] trivial ⟨cq,cq,cq,cq,cq,cq,cq,cq,tt⟩ trivial
         ·(try simp only []);first | omega | grind
    ·have hkl:k=(aX f i).cases.length:=by simp only [decide_eq_false_iff_not]at h5;omega
     subst hkl;have hsf:JV p f (aX f i)=Gm f (aX f i):=by rw [JV,kL hc];simp
     refine xt (sq (rg [] rfl ?_));refine cd rfl (fun h20=>?_) (fun h20=>?_)
     ·have he:(aX f i).els ≠ -1:=by simpa using h20
      refine sq (rgs [CG.pure (.int (wJ f (aX f i).els))] rfl ?_ ?_)
      ·have ho:=pU p f (aX f i).els;exact ho
      refine sg rfl ?_;refine cd rfl (fun h22=>?_) (fun h22=>?_)
      ·have ht:wJ f (aX f i).els≠0:=by simpa using h22
       refine sg rfl ?_;refine WP.ret ?_;change Fin ..;refine dQ hT (by rfl) ?_;rw [jX hil hn (by rw [hsf,Gm,if_pos he]) ht]
      ·have ht:wJ f (aX f i).els=0:=by simpa using h22
       refine sk (rg [] rfl ?_);refine ⟨i+1,?_,?_,?_⟩
       ·exact ⟨hil,iF hn (by rw [hsf,Gm,if_pos he,ht])⟩
       ·refine em [] trivial ⟨cq,cq,cq,cq,tt⟩ trivial
       ·(try simp only []);first | omega | grind
     ·have he:(aX f i).els = -1:=by simpa using h20
      refine sk (rg [] rfl ?_);refine ⟨i+1,?_,?_,?_⟩
      ·exact ⟨hil,iF hn (by rw [hsf,Gm,if_neg (fun h=>h he)])⟩
      ·refine em [] trivial ⟨cq,cq,cq,cq,tt⟩ trivial
      ·(try simp only []);first | omega | grind
  ·have hil:i=f.sels.length:=by simp at h2;omega
   subst hil;refine xt (sq (rg [] rfl ?_));exact WP.ret (dQ hT (by rfl) (by rw [uw,kL hn]))
def fkE {α:Type} (g:α→Int):List α→Nat
 | []=>0
 | x::r=>if g x≠0 then 0 else fkE g r+1
theorem Nw {α:Type} {g:α→Int} {d:α}:∀ {l:List α} {i:Nat},i<l.length→(∀ j,j<i→g (l.getD j d)=0)→g (l.getD i d)≠0→fkE g l=i
 | x::r,0,_,_,hb=>by
  have hb':g x≠0:=hb;rw [fkE,if_pos hb']
 | x::r,i+1,hi,hn,hb=>by
  have h0:=hn 0 (by omega);rw [fkE,if_neg (by simpa using h0)];rw [Nw (l:=r) (i:=i) (by simpa using hi) (fun j hj=>hn (j+1) (by omega)) hb]
def xQ (a b:Int):AV:=bG 128 [.int a,.int b]
def yG (f:iW):Int:=(f.code.getD (f.code.length - 1) zh).op
def Bj (op:Int):Bool:=op==42||op==45||op==61
theorem Jp {x:Int} (h:(x==42)=true):Bj x=true:=by rw [Bj,h];rfl
theorem Jo {x:Int} (h:(x==45)=true):Bj x=true:=by rw [Bj,h];simp
theorem Jm {x:Int} (h:(x==61)=true):Bj x=true:=by rw [Bj,h];simp
theorem O4 {x:Int} (h1:(x==42)=false) (h2:(x==45)=false) (h3:(x==61)=false):Bj x=false:=by rw [Bj,h1,h2,h3];rfl
def Az (p:ay) (f:iW) (main:Bool):Int×Int :=
 if fZ f main=false then (32,0)else if uw p f≠0 then (uw p f,0)else
 if CY (jI p f) f.code≠0 then (CY (jI p f) f.code,fkE (jI p f) f.code)else
 if Bj (yG f)then (0,0)else (39,(f.code.length:Int) - 1)
abbrev bn (p:ay) (i:Nat):iW:=p.funcs.getD i yI
def kJ (p:ay):Nat→Nat→Int×Int×Int
 | 0,_=>(0,0,0)
 | n+1,i=>if (Az p (bn p i) (i==0)).1≠0 then ((Az p (bn p i) (i==0)).1,i,(Az p (bn p i) (i==0)).2)else kJ p n (i+1)
def mM (p:ay):Int×Int×Int:=if jV p≠0 then (jV p,0,0)else kJ p p.funcs.length 0
theorem lT {p:ay}:∀ {i n:Nat},i≤n→(∀ j,j<i→(Az p (bn p j) (j==0)).1=0)→kJ p n 0=kJ p (n - i) i
 | 0,n,_,_=>rfl
 | i+1,n,h,hn=>by
  rw [lT (i:=i) (by omega) (fun j hj=>hn j (by omega)),show n - i=(n - (i+1))+1 by omega,kJ,if_neg (fun h=>h (hn i (by omega)))]
theorem tq {p:ay} {i:Nat} {e pc:Int} (hw:jV p=0) (hi:i<p.funcs.length) (hn:∀ j,j<i→(Az p (bn p j) (j==0)).1=0) (he:Az p (bn p i) (i==0)=(e,pc)) (h0:e≠0):mM p=(e,(i:Int),pc):=by
 rw [mM,if_neg (by simp [hw]),lT (Nat.le_of_lt hi) hn,show p.funcs.length - i=(p.funcs.length - i - 1)+1 by omega,kJ,he,if_pos h0]
theorem MF {p:ay} (hw:jV p=0) (hn:∀ j,j<p.funcs.length→(Az p (bn p j) (j==0)).1=0):mM p=(0,0,0):=by
 rw [mM,if_neg (by simp [hw]),lT (Nat.le_refl _) hn,Nat.sub_self];rfl
def xG (p:ay):AV := .tup [.int (mM p).1,xQ (mM p).2.1 (mM p).2.2]
theorem FY (a b:Int):dw (xQ a b)=true:=rfl
theorem oI {nt:Nat} {st:St} {p:ay} {e a b:Int} {B:Blk} (hc:mM p=(e,a,b)) (h2:st.t 2=some (.always,.int e)) (h3:st.t 3=some (.always,.ptr (.s 3 0) 1 0 [])) (hm:st.m (.s 3 0)=some (.cells B)) (hty:B.ty=128) (hn1:B.n=1) (hfz:B.fz=0) (hy:Conv st.m (fun id=>eH id []) T (B.get 0) (xQ a b)):Fin T aV nt 0 [.tmp 2,.cell 3 128] (xG p) [] st:=by
 obtain ⟨ty,n,get,fz⟩:=B;simp only at hty hn1 hfz hy;subst hty hn1 hfz;rw [xG,hc];refine Fin.ent (Ent.mk (P:=Tryz.prog) hT [] (ts:=[(2,.int e),(3,.ptr (.s 3 0) 1 0 [])]) (ms:=[(.s 3 0,.cells ⟨128,1,fun _=>xQ a b,0⟩)]) trivial ⟨⟨rfl,_,h2,ah rfl⟩,⟨rfl,_,h3,ah rfl⟩,tt⟩ ⟨⟨fun _ _=>rfl,.inl ⟨_,hm,_,_,rfl,Nat.le_refl _,Nat.zero_le _,Nat.zero_le _,fun q hq=>?_⟩⟩,tt⟩ rfl) ?_
 ·obtain rfl:q=0:=by simp at hq;exact hq
  exact hy
 ·refine aH hT [(.s 3 0,1)] (ts:=[(2,.int e),(3,.rp 128 (xQ a b))]) (l:=[.int e,xQ a b]) ⟨⟨_,rfl,Nat.le_refl _⟩,tt⟩ ⟨⟨rfl,_,rfl,ah rfl⟩,⟨rfl,_,rfl,?_⟩,tt⟩ trivial rfl rfl rfl;exact eY rfl rfl (by simp [eH,aN]) rfl rfl (FY a b)
theorem uJ (p:ay):AC Tryz.prog T aV 111 [aC p] [] (xG p) []:=by
 refine aA hT Tryz.func111 rfl rfl (Nat.le_of_ble_eq_true rfl) ?_;refine sg rfl ?_;refine sq (sq (rgs [CG.pure (.int (jV p))] rfl ?_ ?_))
 ·have hw:=J4 p;exact ⟨rfl,hw⟩
 refine sg rfl ?_;refine cd rfl (fun h2=>?_) (fun h2=>?_)
 ·have hw:jV p≠0:=by simpa using h2
  refine sg rfl ?_;refine WP.ret ?_;change Fin ..;refine oI (e:=jV p) (a:=0) (b:=0) (by rw [mM,if_pos hw]) rfl rfl rfl rfl rfl rfl ?_;exact ah rfl
 ·have hw:jV p=0:=by simpa using h2
  have hfl:p.funcs.length≤8:=by
   have h1:szB p=false:=by
    unfold jV at hw;split at hw
    ·cases hw
    ·rename_i h;simpa using h
   simp [szB]at h1;omega
  refine sk (sq (sq (rg [] rfl ?_)));refine bk ?_;refine WP.loop (α:=Nat) (fun i=>aP [(1,.rp 26 (aC p)),(3,.ptr (.s 3 0) 1 0 []),(21,rowP 100 lG yI p.funcs),(22,.int p.funcs.length),(23,.int i)] [(.s 3 0,.cells ⟨128,1,fun _=>xQ 0 0,0⟩)]) (fun i=>i≤p.funcs.length ∧ ∀ j,j<i→(Az p (bn p j) (j==0)).1=0) (fun i=>p.funcs.length - i) ?_ ?_
  ·refine ⟨0,?_,?_⟩
   ·exact ⟨Nat.zero_le _,fun j hj=>by omega⟩
   ·refine em [(.s 1 0,1)] ⟨⟨_,rfl,Nat.le_refl _⟩,tt⟩ ⟨⟨rfl,_,rfl,eY rfl rfl (by decide) rfl rfl rfl⟩,cq,cq,cq,cq,tt⟩ ⟨obs rfl,tt⟩
  ·rintro i ⟨hi,hn⟩;refine sg rfl ?_;refine sq ?_;refine cd rfl (fun h5=>?_) (fun h5=>?_)
   ·have hil:i<p.funcs.length:=by simpa using h5
    refine sk (sq (bk (sq (rgs [] rfl ?_ ?_))))
    ·simp [aj,under];omega
    refine sq (sq (rgs [CG.pure (.int (if fZ (bn p i) (i==0)then 0 else 32))] rfl ?_ ?_))
    ·have hz:=Kv (bn p i) (i==0);have ei:((i:Int)==0)=(i==0):=by rw [Bool.eq_iff_iff];simp
     refine ⟨rfl,?_⟩;have hz2:AC Tryz.prog T aV 155 [lG (bn p i),.bool ((i:Int)==0)] [] (.int (if fZ (bn p i) (i==0)then 0 else 32)) []:=by rw [ei];exact hz
     exact hz2
    refine sg rfl ?_;refine cd rfl (fun h8=>?_) (fun h8=>?_)
    ·have hb:fZ (bn p i) (i==0)=false:=by
      cases hz:fZ (bn p i) (i==0)with
      | false=>rfl
      | true=>rw [hz]at h8;simp at h8
     refine sg rfl ?_;refine WP.ret ?_;change Fin ..;exact oI (e:=(if fZ (bn p i) (i==0)then 0 else 32)) (a:=i) (b:=0) (by rw [hb];exact tq (e:=32) hw hil hn (by rw [Az,if_pos hb]) (by decide)) rfl rfl rfl rfl rfl rfl (ah (aW (fun q=>by match q with | 0 | 1 | q+2=>rfl)))
    ·have hb:fZ (bn p i) (i==0)=true:=by
      cases hz:fZ (bn p i) (i==0)with
      | true=>rfl
      | false=>rw [hz]at h8;simp at h8
     have h64:(bn p i).code.length≤64∧1≤(bn p i).code.length:=by
      have h1:szF (bn p i) (i==0)=true:=by
       have h2:=hb;rw [fZ,Bool.and_eq_true]at h2;exact h2.1
      rw [tK]at h1;omega
     refine sk (sq (rg [] rfl ?_));refine sq (sq ?_);refine WP.ent (st':=aP [(1,.rp 26 (aC p)),(3,.ptr (.s 3 0) 1 0 []),(5,.int i),(6,.rp 100 (lG (bn p i))),(8,.rp 257 (vM p (bn p i))),(21,rowP 100 lG yI p.funcs),(22,.int p.funcs.length),(23,.int i)] [(.s 3 0,.cells ⟨128,1,fun _=>xQ 0 0,0⟩)]) ?_ ?_
     ·refine em [(.s 6 0,1),(.s 40 0,1)] ⟨⟨_,rfl,Nat.le_refl _⟩,⟨_,rfl,Nat.le_refl _⟩,tt⟩ ⟨cq,cq,cq,⟨rfl,_,rfl,eY rfl rfl (by decide) rfl rfl rfl⟩,⟨rfl,_,rfl,eY rfl rfl (by decide) rfl (aW (fun q=>by match q with | 0 | 1 | q+2=>rfl)) rfl⟩,cq,cq,cq,tt⟩ ⟨obs rfl,tt⟩
     refine rgs [CG.pure (.int (uw p (bn p i)))] rfl ?_ ?_
     ·have hs:=Fv p (bn p i) (i==0) hb;exact hs
     refine sg rfl ?_;refine cd rfl (fun h12=>?_) (fun h12=>?_)
     ·have hs:uw p (bn p i)≠0:=by simpa using h12
      refine sg rfl ?_;refine WP.ret ?_;change Fin ..;exact oI (e:=uw p (bn p i)) (a:=i) (b:=0) (tq hw hil hn (by rw [Az,if_neg (by rw [hb];decide),if_pos hs]) hs) rfl rfl rfl rfl rfl rfl (ah (aW (fun q=>by match q with | 0 | 1 | q+2=>rfl)))
     ·have hs:uw p (bn p i)=0:=by simpa using h12
      refine sk (sq (sq (rg [] rfl ?_)));refine bk ?_;refine WP.loop (α:=Nat) (fun k=>aP [(1,.rp 26 (aC p)),(3,.ptr (.s 3 0) 1 0 []),(5,.int i),(6,.rp 100 (lG (bn p i))),(8,.rp 257 (vM p (bn p i))),(21,rowP 100 lG yI p.funcs),(22,.int p.funcs.length),(23,.int i),(49,rowP 120 aQ zh (bn p i).code),(50,.int (bn p i).code.length),(51,.int k)] [(.s 3 0,.cells ⟨128,1,fun _=>xQ 0 0,0⟩)]) (fun k=>k≤(bn p i).code.length ∧ ∀ j,j<k→jI p (bn p i) ((bn p i).code.getD j zh)=0) (fun k=>(bn p i).code.length - k) ?_ ?_
      ·refine ⟨0,?_,?_⟩
       ·exact ⟨Nat.zero_le _,fun j hj=>by omega⟩
       ·refine em [] trivial ⟨cq,cq,cq,cq,cq,cq,cq,cq,cq,cq,cq,tt⟩ ⟨obs rfl,tt⟩
      ·rintro k ⟨hk,hc⟩;refine sg rfl ?_;refine sq ?_;refine cd rfl (fun h15=>?_) (fun h15=>?_)
       ·have hkl:k<(bn p i).code.length:=by simpa using h15
        refine sk (sq (bk (sq (rgs [] rfl ?_ ?_))))
        ·have hkl2:k<(p.funcs[i]?.getD yI).code.length:=hkl;simp [aj,under];omega
        refine sq (rgs [CG.pure (.int (jI p (bn p i) ((bn p i).code.getD k zh)))] rfl ?_ ?_)
        ·have hx:=Lj p (bn p i) ((bn p i).code.getD k zh);refine ⟨rfl,?_⟩;exact hx
        refine sg rfl ?_;refine cd rfl (fun h18=>?_) (fun h18=>?_)
        ·have hx:jI p (bn p i) ((bn p i).code.getD k zh)≠0:=by simpa using h18
         refine sg rfl ?_;refine WP.ret ?_;change Fin ..;exact oI (e:=jI p (bn p i) ((bn p i).code.getD k zh)) (a:=i) (b:=k) (tq hw hil hn (by rw [Az,if_neg (by rw [hb];decide),if_neg (fun h=>h hs),uZ hkl hc hx,Nw hkl hc hx,if_pos hx]) hx) rfl rfl rfl rfl rfl rfl (ah (aW (fun q=>by match q with | 0 | 1 | q+2=>rfl)))
        ·have hx:jI p (bn p i) ((bn p i).code.getD k zh)=0:=by simpa using h18
         refine sk (rg [] rfl ?_);refine ⟨k+1,?_,?_,?_⟩
         ·exact ⟨hkl,iF hc hx⟩
         ·refine em [] trivial ⟨cq,cq,cq,cq,cq,cq,cq,cq,cq,cq,cq,tt⟩ ⟨obs rfl,tt⟩
         ·(try simp only []);first | omega | grind
       ·have hkl:k=(bn p i).code.length:=by simp only [decide_eq_false_iff_not]at h15;omega
        subst hkl;refine xt (sq (rg [] rfl ?_));refine sq (rgs [] rfl ?_ ?_)
        ·have hc64:(p.funcs[i]?.getD yI).code.length≤64∧1≤(p.funcs[i]?.getD yI).code.length:=h64;simp [aj,under];rw [cu (by omega) (by omega)];omega
        refine bk (sq (sq ?_));have hlst:(bn p i).code.getD (IntKind.i64.wrap (((bn p i).code.length:Int) - 1)).toNat zh=(bn p i).code.getD ((bn p i).code.length - 1) zh:=by
         rw [cu (by omega) (by omega)];congr 1;omega
        have ho:((bn p i).code.getD (IntKind.i64.wrap (((bn p i).code.length:Int) - 1)).toNat zh).op=yG (bn p i):=by rw [hlst];rfl
        refine rg [] rfl ?_;refine cd rfl (fun h24=>?_) (fun h24=>?_)
        ·refine sk ?_;refine cd rfl (fun h24=>?_) (fun h24=>?_)
         ·refine sk (rg [] rfl ?_);refine ⟨i+1,?_,?_,?_⟩
          ·refine ⟨hil,iF hn ?_⟩;have he:Bj (yG (bn p i))=true:=by first | exact Jp (by rw [← ho];exact h24) | exact Jo (by rw [← ho];exact h25) | exact Jm (by rw [← ho];exact h26)
           rw [Az,if_neg (by rw [hb];decide),if_neg (fun h=>h hs),if_neg (fun h=>h (kL hc)),if_pos he]
          ·refine em [] trivial ⟨cq,cq,cq,cq,cq,tt⟩ ⟨obs rfl,tt⟩
          ·(try simp only []);first | omega | grind
         ·simp_all
        ·refine sg rfl ?_;refine cd rfl (fun h25=>?_) (fun h25=>?_)
         ·refine sk ?_;refine cd rfl (fun h25=>?_) (fun h25=>?_)
          ·refine sk (rg [] rfl ?_);refine ⟨i+1,?_,?_,?_⟩
           ·refine ⟨hil,iF hn ?_⟩;have he:Bj (yG (bn p i))=true:=by first | exact Jp (by rw [← ho];exact h24) | exact Jo (by rw [← ho];exact h25) | exact Jm (by rw [← ho];exact h26)
            rw [Az,if_neg (by rw [hb];decide),if_neg (fun h=>h hs),if_neg (fun h=>h (kL hc)),if_pos he]
           ·refine em [] trivial ⟨cq,cq,cq,cq,cq,tt⟩ ⟨obs rfl,tt⟩
           ·(try simp only []);first | omega | grind
          ·simp_all
         ·refine rg [] rfl ?_;refine cd rfl (fun h26=>?_) (fun h26=>?_)
          ·refine sk (rg [] rfl ?_);refine ⟨i+1,?_,?_,?_⟩
           ·refine ⟨hil,iF hn ?_⟩;have he:Bj (yG (bn p i))=true:=by first | exact Jp (by rw [← ho];exact h24) | exact Jo (by rw [← ho];exact h25) | exact Jm (by rw [← ho];exact h26)
            rw [Az,if_neg (by rw [hb];decide),if_neg (fun h=>h hs),if_neg (fun h=>h (kL hc)),if_pos he]
           ·refine em [] trivial ⟨cq,cq,cq,cq,cq,tt⟩ ⟨obs rfl,tt⟩
           ·(try simp only []);first | omega | grind
          ·refine sg rfl ?_;refine WP.ret ?_;change Fin ..;have he:Bj (yG (bn p i))=false:=O4 (by rw [← ho];exact h24) (by rw [← ho];exact h25) (by rw [← ho];exact h26)
           exact oI (e:=39) (a:=i) (b:=IntKind.i64.wrap (((bn p i).code.length:Int) - 1)) (by
            rw [cu (by omega) (by omega)];exact tq hw hil hn (by rw [Az,if_neg (by rw [hb];decide),if_neg (fun h=>h hs),if_neg (fun h=>h (kL hc)),if_neg (by rw [he];decide)]) (by decide)) rfl rfl rfl rfl rfl rfl (ah (aW (fun q=>by match q with | 0 | 1 | q+2=>rfl)))
   ·have hil:i=p.funcs.length:=by simp at h5;omega
    subst hil;refine xt (sq (rg [] rfl ?_));exact WP.ret (oI (e:=0) (a:=0) (b:=0) (MF hw hn) rfl rfl rfl rfl rfl rfl (ah rfl))
structure PGo where
 status:Int
 func:Int
 pc:Int
 why:Int
 regs:List Int
 deriving DecidableEq
structure jw where
 buf:List Int
 len:Int
 closed:Bool
 offer:Int
 frm:Int
 val:Int
 deriving DecidableEq
structure PSt where
 vars:List Int
 owner:List Int
 chans:List jw
 gos:List PGo
 count:Int
 deriving DecidableEq
def go0:PGo:=⟨0,0,0,0,[0,0,0,0,0,0,0,0]⟩
def ch0:jw:=⟨[0,0,0,0],0,false,0,0,0⟩
def st0:PSt:=⟨[0,0,0,0,0,0,0,0],[0,0,0,0],[ch0,ch0,ch0,ch0],[go0,go0,go0,go0,go0,go0],0⟩
def KR (g:PGo):Prop:=g.regs.length=8
def Nr (c:jw):Prop:=c.buf.length=4
structure OkS (s:PSt):Prop where
 vars:s.vars.length=8
 owner:s.owner.length=4
 chans:s.chans.length=4
 gos:s.gos.length=6
 ch:∀ c∈s.chans,Nr c
 go:∀ g∈s.gos,KR g
def bH (g:PGo):AV:=bG 59 [.int g.status,.int g.func,.int g.pc,.int g.why,mQ 52 8 .i64 g.regs]
def fM (c:jw):AV:=bG 56 [mQ 54 4 .i64 c.buf,.int c.len,.bool c.closed,.int c.offer,.int c.frm,.int c.val]
def BA {α:Type} (t n:Nat) (enc:α→AV) (d:α) (l:List α):AV := .agg t n (fun i=>enc (l.getD i d))
def encS (s:PSt):AV:=bG 62 [mQ 52 8 .i64 s.vars,mQ 53 4 .i64 s.owner,BA 57 4 fM ch0 s.chans,BA 60 6 bH go0 s.gos,.int s.count]
theorem E8 {α:Type} {t n k:Nat} {enc:α→AV} {d x:α} {l:List α} {p:List Nat} {y:AV} (h:k<l.length) (e:(enc (l.getD k d)).put p y=enc x):(BA t n enc d l).put (k::p) y=BA t n enc d (l.set k x):=by
 simp only [BA,AV.put,AV.agg.injEq,true_and];funext j;cases hz:Nat.beq j k with
 | true =>
  have:=Nat.eq_of_beq_eq_true hz;subst this;simp only [cond_true];rw [e];simp [h]
 | false =>
  have:¬ k=j:=fun e=>by subst e;simp at hz
  simp [this]
theorem fQ (g:PGo) (x:Int):(bH g).put [0] (.int x)=bH { g with status:=x}:=aT (Nat.le_of_ble_eq_true rfl)
theorem oz (g:PGo) (x:Int):(bH g).put [2] (.int x)=bH { g with pc:=x}:=aT (Nat.le_of_ble_eq_true rfl)
theorem zO (g:PGo) (x:Int):(bH g).put [3] (.int x)=bH { g with why:=x}:=aT (Nat.le_of_ble_eq_true rfl)
theorem kY {g:PGo} {k:Nat} (x:Int) (h:k<g.regs.length):(bH g).put [4,k] (.int x)=bH { g with regs:=g.regs.set k x}:=(aT (Nat.le_of_ble_eq_true rfl)).trans (by rw [show ([AV.int g.status,.int g.func,.int g.pc,.int g.why,mQ 52 8 .i64 g.regs].getD 4 .bad)=mQ 52 8 .i64 g.regs from rfl,qH h];rfl)
theorem FN (g:PGo) (l:List Int):(bH g).put [4] (mQ 52 8 .i64 l)=bH { g with regs:=l}:=aT (Nat.le_of_ble_eq_true rfl)
theorem Qh (g x:PGo):(bH g).put [] (bH x)=bH x:=by cases g;rfl
theorem zT {c:jw} {k:Nat} (x:Int) (h:k<c.buf.length):(fM c).put [0,k] (.int x)=fM { c with buf:=c.buf.set k x}:=(aT (Nat.le_of_ble_eq_true rfl)).trans (by rw [show ([mQ 54 4 .i64 c.buf,AV.int c.len,.bool c.closed,.int c.offer,.int c.frm,.int c.val].getD 0 .bad)=mQ 54 4 .i64 c.buf from rfl,qH h];rfl)
theorem qj (c:jw) (x:Int):(fM c).put [1] (.int x)=fM { c with len:=x}:=aT (Nat.le_of_ble_eq_true rfl)
theorem zS (c:jw) (x:Bool):(fM c).put [2] (.bool x)=fM { c with closed:=x}:=aT (Nat.le_of_ble_eq_true rfl)
theorem jZ (c:jw) (x:Int):(fM c).put [3] (.int x)=fM { c with offer:=x}:=aT (Nat.le_of_ble_eq_true rfl)
theorem zQ (c:jw) (x:Int):(fM c).put [4] (.int x)=fM { c with frm:=x}:=aT (Nat.le_of_ble_eq_true rfl)
theorem nJ (c:jw) (x:Int):(fM c).put [5] (.int x)=fM { c with val:=x}:=aT (Nat.le_of_ble_eq_true rfl)
theorem D8 {s:PSt} {k:Nat} (x:Int) (h:k<s.vars.length):(encS s).put [0,k] (.int x)=encS { s with vars:=s.vars.set k x}:=(aT (Nat.le_of_ble_eq_true rfl)).trans (congrArg (fun z=>bG 62 [z,mQ 53 4 .i64 s.owner,BA 57 4 fM ch0 s.chans,BA 60 6 bH go0 s.gos,.int s.count]) (qH h))
theorem KG {s:PSt} {k:Nat} (x:Int) (h:k<s.owner.length):(encS s).put [1,k] (.int x)=encS { s with owner:=s.owner.set k x}:=(aT (Nat.le_of_ble_eq_true rfl)).trans (congrArg (fun z=>bG 62 [mQ 52 8 .i64 s.vars,z,BA 57 4 fM ch0 s.chans,BA 60 6 bH go0 s.gos,.int s.count]) (qH h))
theorem Oa {s:PSt} {k:Nat} {p:List Nat} {y:AV} {c:jw} (h:k<s.chans.length) (e:(fM (s.chans.getD k ch0)).put p y=fM c):(encS s).put (2::k::p) y=encS { s with chans:=s.chans.set k c}:=(aT (Nat.le_of_ble_eq_true rfl)).trans (congrArg (fun z=>bG 62 [mQ 52 8 .i64 s.vars,mQ 53 4 .i64 s.owner,z,BA 60 6 bH go0 s.gos,.int s.count]) (E8 h e))
theorem yh {s:PSt} {k:Nat} {p:List Nat} {y:AV} {g:PGo} (h:k<s.gos.length) (e:(bH (s.gos.getD k go0)).put p y=bH g):(encS s).put (3::k::p) y=encS { s with gos:=s.gos.set k g}:=(aT (Nat.le_of_ble_eq_true rfl)).trans (congrArg (fun z=>bG 62 [mQ 52 8 .i64 s.vars,mQ 53 4 .i64 s.owner,BA 57 4 fM ch0 s.chans,z,.int s.count]) (E8 h e))
theorem wR (s:PSt) (x:Int):(encS s).put [4] (.int x)=encS { s with count:=x}:=aT (Nat.le_of_ble_eq_true rfl)
theorem Sj (s t:PSt):(encS s).put [] (encS t)=encS t:=by cases s;rfl
abbrev goI (s:PSt) (g:Int):PGo:=s.gos.getD g.toNat go0
abbrev chI (s:PSt) (c:Int):jw:=s.chans.getD c.toNat ch0
abbrev mD (s:PSt) (v:Int):Int:=s.vars.getD v.toNat 0
abbrev qI (s:PSt) (v:Int):Int:=s.owner.getD v.toNat 0
abbrev dY (g:PGo) (r:Int):Int:=g.regs.getD r.toNat 0
theorem nM:OkS st0:=⟨rfl,rfl,rfl,rfl,by simp [st0,ch0,Nr],by simp [st0,go0,KR]⟩
def fE (p:ay):Bool:=(mM p).1==0
theorem nV {α:Type} {g:α→Int}:∀ {l:List α},CY g l=0 → ∀ x∈l,g x=0
 | y::r,h,x,hx=>by
  rw [CY]at h;split at h
  ·rename_i hne;exact absurd h hne
  ·rename_i hz;rcases List.mem_cons.1 hx with rfl | hx
   ·simpa using hz
   ·exact nV h x hx
theorem ql {p:ay}:∀ {n i:Nat},(kJ p n i).1=0 → ∀ j,i≤j→j<i+n→(Az p (bn p j) (j==0)).1=0
 | 0,i,_,j,h1,h2=>by omega
 | n+1,i,h,j,h1,h2=>by
  rw [kJ]at h;split at h
  ·rename_i hne;exact absurd h hne
  ·rename_i hz;by_cases e:j=i
   ·subst e;simpa using hz
   ·exact ql h j (by omega) (by omega)
def lJ (f:iW) (n:Int):Prop:=0≤n∧n<f.regs
def eP (n:Int) (m:Nat):Prop:=0≤n∧n<m
structure MW (p:ay) (f:iW) (x:kE):Prop where
 op:Ey x.op=true∨PU x.op=true
 num:1≤x.op∧x.op≤36→lJ f x.a∧lJ f x.b
 num2:16≤x.op∧x.op≤36→lJ f x.c
 const:x.op=40∨x.op=44∨x.op=65∨x.op=63∨x.op=43→lJ f x.a
 move:x.op=41→lJ f x.a∧lJ f x.b
 jump:x.op=42→eP x.a f.code.length
 cond:x.op=43→eP x.b f.code.length
 load:x.op=50→lJ f x.a∧eP x.b p.vars.length
 store:x.op=51∨x.op=54→lJ f x.b∧eP x.a p.vars.length
 bump:x.op=52→(x.a = -1∨lJ f x.a)∧eP x.b p.vars.length∧lJ f x.c
 cas:x.op=53→lJ f x.a∧eP x.b p.vars.length∧lJ f x.c∧lJ f x.n
 lock:x.op=55∨x.op=56→0≤x.a∧x.a<p.locks
 try_:x.op=57→lJ f x.a∧0≤x.b∧x.b<p.locks
 send:x.op=58→eP x.a p.chans.length∧lJ f x.b
 recv:x.op=59→(x.a = -1∨lJ f x.a)∧eP x.b p.chans.length∧(x.c = -1∨lJ f x.c)
 close:x.op=60→eP x.a p.chans.length
 sel:x.op=61→eP x.a f.sels.length
 spawn:x.op=62→(x.a = -1∨lJ f x.a)∧eP x.b p.funcs.length∧(∀ g,g=p.funcs.getD x.b.toNat yI→(g.params=0∧x.c=0)∨0<g.params∧0≤x.c∧(x.c≤IntKind.i64.wrap (f.regs - g.params)))
theorem xw {p:ay} {f:iW} {x:kE}:∀ {n:Nat},oN p f x n=0 → ∀ k,k<n→bT p f (yF x.op k) ((opL x).getD k 0) x=0
 | n+1,h,k,hk=>by
  rw [oN]at h;split at h
  ·rename_i hne;exact absurd h hne
  ·rename_i hz;by_cases e:k=n
   ·subst e;exact h
   ·exact xw (by simpa using hz) k (by omega)
theorem yc {f:iW} {n:Int} (h:yg f n=0):lJ f n:=by
 unfold yg at h;split at h
 ·rename_i hw;simpa [gJ,lJ]using hw
 ·cases h
theorem BJ {f:iW} {n:Int} (h:wJ f n=0):eP n f.code.length:=by
 unfold wJ at h;split at h
 ·rename_i hw;simpa [gJ,eP]using hw
 ·cases h
theorem MJ {p:ay} {n:Int} (h:gV p n=0):eP n p.vars.length:=by
 unfold gV at h;split at h
 ·rename_i hw;simpa [gJ,eP]using hw
 ·cases h
theorem Oh {f:iW} {n k:Int} (h:wo f n k=0):(k=0∧n=0)∨k<0∨(0<k∧0≤n∧n≤IntKind.i64.wrap (f.regs - k)):=by
 unfold wo at h;split at h
 ·cases h
 ·rename_i hz;simp at hz;omega
theorem iK {p:ay} {f:iW} {x:kE} {c n:Int} (h:bT p f c n x=0) :
 (c=111→n = -1∨lJ f n)∧(c=114→lJ f n)∧(c=119→lJ f n)∧(c=118→eP n p.vars.length)∧(c=97→eP n p.vars.length)∧(c=108→0≤n∧n<p.locks)∧(c=99→eP n p.chans.length) ∧
 (c=115→eP n f.sels.length)∧(c=102→eP n p.funcs.length)∧(c=116→eP n f.code.length)∧(c=112→wo f n (p.funcs.getD x.b.toNat yI).params=0):=by
 refine ⟨?_,?_,?_,?_,?_,?_,?_,?_,?_,?_,?_⟩ <;> (intro e;subst e;simp [bT]at h)
 ·by_cases e:n = -1
  ·exact .inl e
  ·exact .inr (yc (by simpa [e]using h))
 ·exact yc h
 ·exact yc h
 ·exact lX h
 ·exact MJ h
 ·exact lX h
 ·exact lX h
 ·exact lX h
 ·exact lX h
 ·exact BJ h
 ·exact h
theorem Qv {p:ay} {f:iW} {x:kE} (hf:∀ g∈p.funcs,0≤g.params) (h:jI p f x=0):MW p f x:=by
 have hne:dG x.op≠[]:=by
  intro e;simp [jI,e]at h
 have he:oN p f x 4=0:=by
  unfold jI at h;rw [if_neg hne]at h;split at h
  ·cases h
  ·exact h
 have hl:∀ k,k<4→yF x.op k=(((dG x.op)[k]?.getD 0).toNat:Nat):=fun k _=>Ns _ _;have H:∀ k,k<4 → ∀ c:Int,(((dG x.op)[k]?.getD 0).toNat:Nat)=c→bT p f c ((opL x).getD k 0) x=0:=fun k hk c hc=>by
  have:=xw he k hk
  rwa [hl k hk,hc]at this
 have hop:(1≤x.op∧x.op≤36)∨(40≤x.op∧x.op≤45)∨(50≤x.op∧x.op≤65):=by
  revert hne;refine yJ (Q:=fun l=>l≠[]→_) x.op ?_ ?_ ?_ ?_ ?_ ?_ ?_ ?_ ?_ ?_ ?_ ?_ ?_ ?_ ?_ ?_ ?_ ?_ ?_ ?_ ?_
  all_goals first | (intro h1 _;omega) | (intro _ h1;exact absurd rfl h1)
 have h0:=fun c hc=>H 0 (by decide) c hc;have h1:=fun c hc=>H 1 (by decide) c hc
 have h2:=fun c hc=>H 2 (by decide) c hc;have h3:=fun c hc=>H 3 (by decide) c hc
 have e0:(opL x).getD 0 0=x.a:=rfl;have e1:(opL x).getD 1 0=x.b:=rfl
 have e2:(opL x).getD 2 0=x.c:=rfl;have e3:(opL x).getD 3 0=x.n:=rfl
 rw [e0]at h0;rw [e1]at h1;rw [e2]at h2;rw [e3]at h3;have F1:1≤x.op∧x.op≤15→dG x.op=[114,114,45,45]:=fun h=>by rw [dG,if_pos h]
 have F2:16≤x.op∧x.op≤36→dG x.op=[114,114,114,45]:=fun h=>by rw [dG,if_neg (by omega),if_pos h]
 have R:=fun n h=>(iK (p:=p) (f:=f) (x:=x) (c:=114) (n:=n) h).2.1 rfl;refine ⟨?_,?_,?_,?_,?_,?_,?_,?_,?_,?_,?_,?_,?_,?_,?_,?_,?_,?_⟩
 ·simp [Ey,PU];omega
 ·intro h;rcases Int.lt_or_le 15 x.op with h15 | h15
  ·have e:=F2 (by omega);exact ⟨R _ (h0 114 (by rw [e];rfl)),R _ (h1 114 (by rw [e];rfl))⟩
  ·have e:=F1 (by omega);exact ⟨R _ (h0 114 (by rw [e];rfl)),R _ (h1 114 (by rw [e];rfl))⟩
 ·intro h;have e:=F2 h
  exact R _ (h2 114 (by rw [e];rfl))
 ·rintro (h | h | h | h | h) <;> exact R _ (h0 114 (by rw [h];rfl))
 ·intro h;exact ⟨R _ (h0 114 (by rw [h];rfl)),R _ (h1 114 (by rw [h];rfl))⟩
 ·intro h;exact (iK (h0 116 (by rw [h];rfl))).2.2.2.2.2.2.2.2.2.1 rfl
 ·intro h;exact (iK (h1 116 (by rw [h];rfl))).2.2.2.2.2.2.2.2.2.1 rfl
 ·intro h;exact ⟨R _ (h0 114 (by rw [h];rfl)),(iK (h1 118 (by rw [h];rfl))).2.2.2.1 rfl⟩
 ·rintro (h | h)
  ·exact ⟨R _ (h1 114 (by rw [h];rfl)),(iK (h0 118 (by rw [h];rfl))).2.2.2.1 rfl⟩
  ·exact ⟨R _ (h1 114 (by rw [h];rfl)),(iK (h0 97 (by rw [h];rfl))).2.2.2.2.1 rfl⟩
 ·intro h;exact ⟨(iK (h0 111 (by rw [h];rfl))).1 rfl,(iK (h1 97 (by rw [h];rfl))).2.2.2.2.1 rfl,R _ (h2 114 (by rw [h];rfl))⟩
 ·intro h;exact ⟨R _ (h0 114 (by rw [h];rfl)),(iK (h1 97 (by rw [h];rfl))).2.2.2.2.1 rfl,R _ (h2 114 (by rw [h];rfl)),(iK (h3 119 (by rw [h];rfl))).2.2.1 rfl⟩
 ·rintro (h | h) <;> exact (iK (h0 108 (by rw [h];rfl))).2.2.2.2.2.1 rfl
 ·intro h;exact ⟨R _ (h0 114 (by rw [h];rfl)),(iK (h1 108 (by rw [h];rfl))).2.2.2.2.2.1 rfl⟩
 ·intro h;exact ⟨(iK (h0 99 (by rw [h];rfl))).2.2.2.2.2.2.1 rfl,R _ (h1 114 (by rw [h];rfl))⟩
 ·intro h;exact ⟨(iK (h0 111 (by rw [h];rfl))).1 rfl,(iK (h1 99 (by rw [h];rfl))).2.2.2.2.2.2.1 rfl,(iK (h2 111 (by rw [h];rfl))).1 rfl⟩
 ·intro h;exact (iK (h0 99 (by rw [h];rfl))).2.2.2.2.2.2.1 rfl
 ·intro h;exact (iK (h0 115 (by rw [h];rfl))).2.2.2.2.2.2.2.1 rfl
 ·intro h;have hb:=(iK (h1 102 (by rw [h];rfl))).2.2.2.2.2.2.2.2.1 rfl
  refine ⟨(iK (h0 111 (by rw [h];rfl))).1 rfl,hb,fun g hg=>?_⟩;have hp:=Oh ((iK (h2 112 (by rw [h];rfl))).2.2.2.2.2.2.2.2.2.2 rfl)
  rw [← hg]at hp;have hm:g∈p.funcs:=by
   have hlt:x.b.toNat<p.funcs.length:=by have:=hb.1;have:=hb.2;omega
   rw [hg,List.getD_eq_getElem?_getD,List.getElem?_eq_getElem hlt];exact List.getElem_mem hlt
  have:=hf g hm;omega
structure QT (p:ay) (f:iW) (c:vU):Prop where
 chan:eP c.chan p.chans.length
 reg:(c.send=true∨c.reg ≠ -1)→lJ f c.reg
 cap:c.send=true→p.chans.getD c.chan.toNat 0≠0
 to:eP c.to f.code.length
structure QW (p:ay) (f:iW) (s:y8):Prop where
 len:1≤s.cases.length∧s.cases.length≤4
 case:∀ c∈s.cases,QT p f c
 els:s.els ≠ -1→eP s.els f.code.length
structure Gz (p:ay) (f:iW):Prop where
 regs:0≤f.regs∧f.regs≤8
 pars:0≤f.params∧f.params≤f.regs
 code:1≤f.code.length∧f.code.length≤64
 sels:f.sels.length≤4
 ins:∀ x∈f.code,MW p f x
 sel:∀ s∈f.sels,QW p f s
 last:Bj (yG f)=true
structure wG (p:ay):Prop where
 vars:p.vars.length≤8
 locks:0≤p.locks∧p.locks≤4
 chans:p.chans.length≤4
 caps:∀ n∈p.chans,0≤n∧n≤4
 funcs:1≤p.funcs.length∧p.funcs.length≤8
 fn:∀ f∈p.funcs,Gz p f
 main:(bn p 0).params=0
theorem Pm {p:ay} {f:iW} {c:vU} (h:pO p f c=0):QT p f c:=by
 unfold pO at h;split at h
 ·cases h
 ·rename_i h1;split at h
  ·cases h
  ·rename_i h2;split at h
   ·cases h
   ·rename_i h3;refine ⟨lX (by simpa using h1),fun hh=>?_,fun hs=>?_,BJ h⟩
    ·refine yc (Decidable.byContradiction fun hn=>h2 ⟨?_,hn⟩);rw [Bool.or_eq_true,bne_iff_ne];exact hh
    ·intro e;exact h3 (by rw [hs,e];rfl)
theorem P9 {p:ay} {f:iW} {s:y8} (hb:Py s=true) (h:JV p f s=0):QW p f s:=by
 unfold JV at h;split at h
 ·rename_i hne;exact absurd h hne
 ·rename_i hz;refine ⟨by simp [Py]at hb;omega,fun c hc=>Pm (nV (by simpa using hz) c hc),fun hne=>?_⟩
  unfold Gm at h;rw [if_pos hne]at h;exact BJ h
theorem o9 {p:ay} (h:fE p=true):wG p:=by
 have h0:(mM p).1=0:=by simpa [fE]using h
 unfold mM at h0;split at h0
 ·rename_i hne;exact absurd h0 hne
 rename_i hw;have hw:jV p=0:=by simpa using hw
 unfold jV at hw;split at hw
 ·cases hw
 rename_i hs;have hsz:p.vars.length≤8∧(0≤p.locks∧p.locks≤4)∧p.chans.length≤4∧(1≤p.funcs.length∧p.funcs.length≤8):=by
  simp [szB]at hs;omega
 have hfz:=ql h0;have hform:∀ j,j<p.funcs.length→fZ (bn p j) (j==0)=true∧uw p (bn p j)=0∧CY (jI p (bn p j)) (bn p j).code=0∧Bj (yG (bn p j))=true:=fun j hj=>by
  have:=hfz j (by omega) (by omega);unfold Az at this;split at this
  ·cases this
  ·rename_i h1;split at this
   ·rename_i h2;exact absurd this h2
   ·rename_i h2;split at this
    ·rename_i h3;exact absurd this h3
    ·rename_i h3;split at this
     ·rename_i h4;exact ⟨by simpa using h1,by simpa using h2,by simpa using h3,h4⟩
     ·cases this
 have hsf:∀ j,j<p.funcs.length→szF (bn p j) (j==0)=true∧vY (bn p j) (bn p j).sels.length=true:=fun j hj=>by
  have:=(hform j hj).1;simpa [fZ]using this
 have hidx:∀ f∈p.funcs,∃ j,j<p.funcs.length∧f=bn p j:=fun f hf=>by
  obtain ⟨j,hj,e⟩:=List.getElem_of_mem hf;exact ⟨j,hj,by simp [bn,hj,e]⟩
 have hpar:∀ g∈p.funcs,0≤g.params:=fun g hg=>by
  obtain ⟨j,hj,rfl⟩:=hidx g hg;have:=tK.1 (hsf j hj).1
  omega
 refine ⟨hsz.1,hsz.2.1,hsz.2.2.1,fun n hn=>?_,hsz.2.2.2,fun f hf=>?_,?_⟩
 ·have:=nV hw n hn;unfold JE at this;split at this
  ·cases this
  ·rename_i h1;simp at h1;omega
 ·obtain ⟨j,hj,rfl⟩:=hidx f hf;have h1:=tK.1 (hsf j hj).1
  have h2:=hform j hj;refine ⟨by omega,by omega,by omega,by omega,fun x hx=>Qv hpar (nV h2.2.2.1 x hx),fun s hs=>?_,h2.2.2.2⟩;obtain ⟨k,hk,e⟩:=List.getElem_of_mem hs;have h3:=xW (hsf j hj).2 k hk
  have e':(bn p j).sels.getD k JW=s:=by rw [List.getD_eq_getElem?_getD,List.getElem?_eq_getElem hk,e];rfl
  rw [e']at h3;exact P9 h3 (nV h2.2.1 s hs)
 ·have:=tK.1 (hsf 0 (by omega)).1;have h5:¬ ((0==0)=true∧(bn p 0).params>0):=this.2.2.2.2.1
  have h6:¬ (bn p 0).params>0:=fun h=>h5 ⟨rfl,h⟩;omega
section
variable {R:Option Nat→Bool→Prop} {P:Program} {T:Nat→TI} {N nt nb:Nat} {post:Post}
theorem JA {m:Id→Option Ob} {F:Id→Nat} {id:Id} {cap:Option Nat}:Conv m F T .nils (.own id 0 0 0 cap):=Or.inr ⟨rfl,.inl ⟨_,_,rfl⟩⟩
theorem WP.nilreg (hT:TOK P T N) (hE:xH P T N) {id:Nat} {ops:Array Oper} {o:Oper} {l:List Oper} {t t1:Nat→Option (D×AV)} {m m1:Id→Option Ob} {gs gs':List CG} {c:Option Prop} {ty k3 k4 yt:Nat} {e len el:Nat} {f:Bool} {g:Nat→AV}
 (hl:ops.toList=l++[o]) (h:evF T (AC P T N) nt ops.toList l t m gs none=some ⟨⟨t1,m1⟩,gs',c⟩) (hc:aj c)
 (ho:o.op = .binOp .eql ty (.tmp k3) (.const (.slice none 0 0)) yt) (hd:o.dst=some k4) (hg:o.guard=none) (hnt:yS nt (some k4)=true) (ht:t1 k3=some (.always,.row e f len g)) (hk:(T ty).kind = .slice el)
 (hp:∀ b,post .normal ⟨Hz t1 k4 (some (.always,.v (.bool b))),m1⟩):WP R P T N nt nb (.region id ops false) post ⟨t,m⟩:=fun en h1 h2 I ρ a w hs rd hr n=>by
 subst h1;rw [ER]at h;have hgd:∀ st,jM ops.toList st o=some .always:=fun st=>by unfold jM;rw [hg]
 refine wpIn_region_list ?_;have hh:wpListIn (jH rd) n P ops (fun ex a' w' => ∃ st' I' ρ',post ex st'∧dU T N en I' ρ' st' a' w') (l++[o]) a w:=by
  refine (OY (l2:=[o]) hT hE rd n l ⟨⟨t,m⟩,gs,none⟩ ⟨⟨t1,m1⟩,gs',c⟩ hs h hc (fun I' ρ' a' w' hs'=>?_)).2;have hwant:=l9 hs' (hgd ⟨t1,m1⟩)
  unfold wpListIn;rw [if_pos (hwant.1 trivial)];refine ⟨fun _ _=>trivial,?_⟩;rw [Oper.semAt_eq _ _ _ (by simp [ho])];have hrow:=((hs'.tm k3 _ _ ht).1 trivial).rep1 (fun _=>by simp)
  have hu:=(hT.sli hk).2;have key:∀ (v:Value) (sp:Option Addr) (ln cp:Nat),v = .slice sp ln cp→a'.eval (.tmp k3)=v → ∃ b,(do eqGuard .eql ty (.tmp k3) (.const (.slice none 0 0)) (a'.eval (.tmp k3)) (a'.eval (.const (.slice none 0 0)));binOp .eql ty (a'.eval (.tmp k3)) (a'.eval (.const (.slice none 0 0))):Sem Value).run P w' = .ok (.bool b) w':=by
   rintro v sp ln cp rfl ev;refine ⟨sp.isNone&&true,?_⟩;have e2:a'.eval (.const (.slice none 0 0)) = .slice none 0 0:=rfl
   rw [ev,e2];have hgg:=bP (P:=P) (a := .slice sp ln cp) (b := .slice none 0 0) .eql ty (.tmp k3) (.const (.slice none 0 0)) (by simp) (by simp) w'
   simp only [Sem.run_bind,hgg,Result.andThen_ok,binOp];rw [bQ hu w' sp none ln cp 0 0 (.inr rfl)];rfl
  have hev:∃ b,(do eqGuard .eql ty (.tmp k3) (.const (.slice none 0 0)) (a'.eval (.tmp k3)) (a'.eval (.const (.slice none 0 0)));binOp .eql ty (a'.eval (.tmp k3)) (a'.eval (.const (.slice none 0 0))):Sem Value).run P w' = .ok (.bool b) w':=by
   rcases Rep.row_inv hrow with ⟨⟨ad,ex⟩,_,_⟩ | ⟨b,off,cap,segs,_,_,_,_,_,_,_,_,ex⟩
   ·exact key _ _ _ _ ex rfl
   ·exact key _ _ _ _ ex rfl
  obtain ⟨b,hb⟩:=hev;have hrun:(execOp a'.eval o).run P w' = .ok (.value (.bool b)) w':=by
   unfold execOp;rw [ho];exact bg hb
  rw [hrun];refine ⟨_,I',ρ',hp b,?_⟩;have:=jA (o:=o) (G := .always) (r:=⟨.v (.bool b),[],[],none⟩) (v := .bool b) hs' (by rw [hd];exact hnt) (.inr ⟨fun _=>cZ rfl,fun h=>absurd trivial h⟩) (Ev.refl _ _ _) hs'.wr
  have e3:(St.after ⟨t1,m1⟩ o .always ⟨.v (.bool b),[],[],none⟩)=⟨Hz t1 k4 (some (.always,.v (.bool b))),m1⟩:=by
   simp only [St.after,St.put,hd,je]
  rw [e3]at this;exact this
 rw [← hl]at hh;exact hh
theorem AC.ent {f:FuncId} {args:List AV} {B:List Ob} {r r2:AV} {B' B2:List Ob} (h:AC P T N f args B r B') (hent:Ent T N 1 B.length (aP [(0,r)] (mkB 0 B')) (aP [(0,r2)] (mkB 0 B2))):AC P T N f args B r2 B2:=by
 refine ⟨h.1,fun I ρ w vs hl hvs hw=>(h.2 I ρ w vs hl hvs hw).mono ?_⟩;rintro e w' ⟨v,I',ρ',he,h1,h2,h3⟩;have hm:∀ B:List Ob,(aP [(0,r)] (mkB 0 B)).m=ofB B:=fun B=>yD B
 have hm2:∀ B:List Ob,(aP [(0,r2)] (mkB 0 B)).m=ofB B:=fun B=>yD B;have hst:dU T N ⟨I,ρ,w,1,B.length,false⟩ I' ρ' (aP [(0,r)] (mkB 0 B')) { tmps := #[v],defers:=[] } w':=by
  refine ⟨by rw [hm];exact h3,fun t d x ht=>?_,rfl,⟨Marks.nil,fun _=>rfl⟩,h1,fun id p hp=>?_⟩
  ·simp only [aP,Option.map_eq_some_iff,Prod.mk.injEq]at ht;obtain ⟨x0,k1,rfl,rfl⟩:=ht;simp only [kF]at k1;cases hb:Nat.beq t 0 with
   | false=>rw [hb]at k1;cases k1
   | true =>
    rw [hb]at k1;cases k1;obtain rfl:=Nat.eq_of_beq_eq_true hb;exact ⟨fun _=>h2,fun h=>absurd trivial h⟩
  ·have:=hw.dom id p hp;cases id with
   | s a b=>exact absurd rfl this
   | b j =>
    refine ⟨j,?_,rfl⟩;cases hj:B[j]? with
    | none=>simp [ofB,hj]at this
    | some o=>exact (List.getElem?_eq_some_iff.1 hj).1
 obtain ⟨I2,ρ2,hs2⟩:=hent _ rfl rfl I' ρ' _ w' hst;refine ⟨v,I2,ρ2,he,hs2.ev,?_,?_⟩
 ·exact (hs2.tm 0 .always r2 rfl).1 trivial
 ·have:=hs2.wr
  rwa [hm2]at this
end
section
variable {T:Nat→TI}
theorem sF {st:St} {id:Id} {B:Blk} (h:st.m id=some (.cells B):=by rfl) (hk:1≤B.n:=by exact Nat.le_refl _):∃ B,st.m id=some (.cells B)∧1≤B.n:=⟨B,h,hk⟩
theorem rpv {m:Id→Option Ob} {F:Id→Nat} {id:Id} {n i:Nat} {p:List Nat} {t:Nat} {y:AV} {B:Blk} (hm:m id=some (.cells B):=by rfl) (hn:B.n=n:=by rfl) (hF:i<F id:=by decide) (ht:aJ T B.ty p=some t:=by rfl) (hy:(B.get i).at p=y:=by rfl) (hno:dw y=true:=by rfl):Conv m F T (.ptr id n i p) (.rp t y):=eY hm hn hF ht hy hno
theorem rq {Q:Prop} (h:Q:=by refine ⟨rfl,_,rfl,?_⟩;exact rpv):Q:=h
theorem q0 {Q:Nat→Prop} (h:Q 0):∀ q,q<1→Q q:=fun q hq=>by obtain rfl:q=0:=Nat.lt_one_iff.1 hq;exact h
end
def F6 (w o:Int):Bool:=decide ((w=1∧o=44)∨(w=2∧(o=19∨o=20))∨(w=3∧25≤o∧o≤27)∨(w=4∧(o=58∨o=61))∨(w=5∧o=60)∨(w=6∧o=56)∨(w=7∧o=63)∨(w=8∧o=62))
theorem Qr (w o:Int):AC Tryz.prog T aV 237 [.int w,.int o] [] (.bool (F6 w o)) []:=by
 refine aA hT Tryz.func237 rfl rfl (Nat.le_of_ble_eq_true rfl) ?_;refine sg rfl ?_;refine sq (sq (rg [] rfl ?_));refine bk (sq (rg [] rfl ?_));refine cd rfl (fun h2=>?_) (fun h2=>?_)
 ·refine sg rfl ?_;refine WP.ret ?_;change Fin ..;refine fin1 hT (by rfl) ?_
  try simp only [bor,band]
  rw [Bool.eq_iff_iff];simp [F6]at *
  omega
 ·refine sg rfl ?_;refine cd rfl (fun h4=>?_) (fun h4=>?_)
  ·refine sg rfl ?_;refine WP.ret ?_;change Fin ..;refine fin1 hT (by rfl) ?_
   try simp only [bor,band]
   rw [Bool.eq_iff_iff];simp [F6]at *
   omega
  ·refine sg rfl ?_;refine cd rfl (fun h6=>?_) (fun h6=>?_)
   ·refine sg rfl ?_;refine WP.ret ?_;change Fin ..;refine fin1 hT (by rfl) ?_
    try simp only [bor,band]
    rw [Bool.eq_iff_iff];simp [F6]at *
    omega
   ·refine sg rfl ?_;refine cd rfl (fun h8=>?_) (fun h8=>?_)
    ·refine sg rfl ?_;refine WP.ret ?_;change Fin ..;refine fin1 hT (by rfl) ?_
     try simp only [bor,band]
     rw [Bool.eq_iff_iff];simp [F6]at *
     omega
    ·refine sg rfl ?_;refine cd rfl (fun h10=>?_) (fun h10=>?_)
     ·refine sg rfl ?_;refine WP.ret ?_;change Fin ..;refine fin1 hT (by rfl) ?_
      try simp only [bor,band]
      rw [Bool.eq_iff_iff];simp [F6]at *
      omega
     ·refine sg rfl ?_;refine cd rfl (fun h12=>?_) (fun h12=>?_)
      ·refine sg rfl ?_;refine WP.ret ?_;change Fin ..;refine fin1 hT (by rfl) ?_
       try simp only [bor,band]
       rw [Bool.eq_iff_iff];simp [F6]at *
       omega
      ·refine sg rfl ?_;refine cd rfl (fun h14=>?_) (fun h14=>?_)
       ·refine sg rfl ?_;refine WP.ret ?_;change Fin ..;refine fin1 hT (by rfl) ?_
        try simp only [bor,band]
        rw [Bool.eq_iff_iff];simp [F6]at *
        omega
       ·refine sg rfl ?_;refine cd rfl (fun h16=>?_) (fun h16=>?_)
        ·refine sg rfl ?_;refine WP.ret ?_;change Fin ..;refine fin1 hT (by rfl) ?_
         try simp only [bor,band]
         rw [Bool.eq_iff_iff];simp [F6]at *
         omega
        ·refine sk (sq (rg [] rfl ?_));refine WP.ret ?_;change Fin ..;refine fin1 hT (by rfl) ?_
         try simp only [bor,band]
         rw [Bool.eq_iff_iff];simp [F6]at *
         omega
theorem zU (op:Int):AC Tryz.prog T aV 204 [.int op] [] (.bool (Ey op)) []:=by
 refine aA hT Tryz.func204 rfl rfl (Nat.le_of_ble_eq_true rfl) ?_;refine sg rfl ?_;refine sg rfl ?_;refine WP.ret ?_;change Fin ..;exact fin1 hT (by rfl) (by rw [band,band,bor];rfl)
theorem BX (op:Int):AC Tryz.prog T aV 235 [.int op] [] (.bool (PU op)) []:=by
 refine aA hT Tryz.func235 rfl rfl (Nat.le_of_ble_eq_true rfl) ?_;refine sg rfl ?_;refine sg rfl ?_;refine WP.ret ?_;change Fin ..;exact fin1 hT (by rfl) (by rw [band];rfl)
theorem tV (p:ay):AC Tryz.prog T aV 141 [aC p] [] (.bool (fE p)) []:=by
 refine aA hT Tryz.func141 rfl rfl (Nat.le_of_ble_eq_true rfl) ?_;refine sg rfl ?_;refine sq (rgs [CG.pure (xG p)] rfl ?_ ?_)
 ·have hq:=uJ p;exact au
 refine sg rfl ?_;exact WP.ret (fin1 hT rfl rfl)
abbrev jv (p:ay) (g:PGo):iW:=p.funcs.getD g.func.toNat yI
abbrev insOf (p:ay) (g:PGo):kE:=(jv p g).code.getD g.pc.toNat zh
def Ny (p:ay) (g:PGo):Prop:=(1≤g.status∧g.status≤5)∧eP g.func p.funcs.length∧eP g.pc (jv p g).code.length ∧
 (∀ k:Nat,k<8→g.regs.getD k 0=0∨((k:Int)<(jv p g).regs∧g.status≠3∧g.status≠4)) ∧
 (g.status=4→F6 g.why (insOf p g).op=true)∧(g.status≠4→g.why=0)∧(g.status=3→(insOf p g).op=45)∧(g.status=5→Ey (insOf p g).op=true)
instance (n:Int) (m:Nat):Decidable (eP n m):=by unfold eP;infer_instance
instance (p:ay) (g:PGo):Decidable (Ny p g):=by unfold Ny;infer_instance
theorem OV (p:ay) (g:PGo):AC Tryz.prog T aV 189 [aC p,bH g] [] (.bool (decide (Ny p g))) []:=by
 refine aA hT Tryz.func189 rfl rfl (Nat.le_of_ble_eq_true rfl) ?_;refine sg rfl ?_;refine sq (sq ?_);refine WP.ent (st':=aP [(2,.rp 26 (aC p)),(3,.rp 59 (bH g))] []) (em [(.s 2 0,1),(.s 3 0,1)] ⟨sF,sF,tt⟩ ⟨rq,rq,tt⟩ trivial) ?_;refine rg [] rfl ?_;refine cd rfl (fun h1=>?_) (fun h1=>?_)
 ·simp only [bor]at h1;refine sg rfl ?_;refine WP.ret ?_;change Fin ..;refine fin1 hT (by rfl) (Eq.symm (decide_eq_false fun h=>?_));have h2:=h.1;have h3:=h.2.1;unfold eP at h3
  simp [-List.getD_eq_getElem?_getD]at h1;omega
 ·simp only [bor]at h1;have hh:(1≤g.status∧g.status≤5)∧eP g.func p.funcs.length:=by unfold eP;simp [-List.getD_eq_getElem?_getD]at h1;omega
  refine sk (sq (rgs [] rfl ?_ ?_))
  ·have:=hh.2;unfold eP at this;simp [-List.getD_eq_getElem?_getD,aj,under];omega
  refine sq (sq ?_);refine WP.ent (st':=aP [(5,.rp 100 (lG (jv p g))),(2,.rp 26 (aC p)),(3,.rp 59 (bH g))] []) (em [(.s 5 0,1)] ⟨sF,tt⟩ ⟨rq,cq,cq,tt⟩ trivial) ?_;refine rg [] rfl ?_;refine cd rfl (fun h4=>?_) (fun h4=>?_)
  ·simp only [bor]at h4;refine sg rfl ?_;refine WP.ret ?_;change Fin ..;refine fin1 hT (by rfl) (Eq.symm (decide_eq_false fun h=>?_));have h3:=h.2.2.1;unfold eP at h3
   simp [-List.getD_eq_getElem?_getD]at h4;omega
  ·simp only [bor]at h4;have hp:eP g.pc (jv p g).code.length:=by unfold eP;simp [-List.getD_eq_getElem?_getD]at h4;omega
   refine sk (sq (rg [] rfl ?_));refine sq (sq (rg [] rfl ?_));refine bk ?_;refine WP.loop (α:=Nat) (fun i=>aP [(3,.rp 59 (bH g)),(5,.rp 100 (lG (jv p g))),(6,.bool (g.status==3||g.status==4)),(57,mQ 52 8 .i64 g.regs),(58,.int i)] []) (fun i=>i≤8 ∧ ∀ k:Nat,k<i→g.regs.getD k 0=0∨((k:Int)<(jv p g).regs∧g.status≠3∧g.status≠4)) (fun i=>8 - i) ?_ ?_
   ·refine ⟨0,?_,?_⟩
    ·exact ⟨Nat.zero_le _,fun j hj=>by omega⟩
    ·refine em [] trivial ⟨cq,cq,⟨rfl,_,rfl,ah (by rw [bor])⟩,cq,cq,tt⟩ trivial
   ·rintro i ⟨hi,hn⟩;refine sg rfl ?_;refine sq ?_;refine cd rfl (fun h8=>?_) (fun h8=>?_)
    ·have hil:i<8:=by simp [-List.getD_eq_getElem?_getD]at h8;omega
     refine sk (sq (bk (sq (rgs [] rfl ?_ ?_))))
     ·simp [-List.getD_eq_getElem?_getD,aj,under];omega
     refine sg rfl ?_;refine cd rfl (fun h10=>?_) (fun h10=>?_)
     ·simp only [bor,band]at h10;refine sg rfl ?_;refine WP.ret ?_;change Fin ..;refine fin1 hT (by rfl) (Eq.symm (decide_eq_false fun h=>?_));have h3:=h.2.2.2.1 i hil
      simp [-List.getD_eq_getElem?_getD]at h10;rcases h3 with h3 | h3
      ·exact h10.1 (by simpa using h3)
      ·have:=h10.2;grind
     ·simp only [bor,band]at h10;refine sk (rg [] rfl ?_);refine ⟨i+1,?_,?_,?_⟩
      ·exact ⟨hil,all_succ hn (by simp [-List.getD_eq_getElem?_getD]at h10;by_cases e:g.regs.getD i 0=0;exact .inl e;exact .inr (by have:=h10 (by simpa using e);grind))⟩
      ·refine em [] trivial ⟨cq,cq,cq,cq,cq,tt⟩ trivial
      ·(try simp only []);first | omega | grind
    ·have hil:i=8:=by simp [-List.getD_eq_getElem?_getD]at h8;omega
     subst hil;have fin:∀ b:Bool,(b=true↔(g.status=4→F6 g.why (insOf p g).op=true)∧(g.status≠4→g.why=0)∧(g.status=3→(insOf p g).op=45)∧(g.status=5→Ey (insOf p g).op=true))→b=decide (Ny p g):=fun b hb=>by
      rw [Bool.eq_iff_iff,hb,decide_eq_true_iff];exact ⟨fun h=>⟨hh.1,hh.2,hp,hn,h⟩,fun h=>h.2.2.2.2⟩
     refine xt (sq (rgs [] rfl ?_ ?_))
     ·unfold eP at hp;simp [-List.getD_eq_getElem?_getD,aj,under];omega
     refine sq (sq (rg [] rfl ?_));refine bk (sq (rg [] rfl ?_));refine cd rfl (fun h15=>?_) (fun h15=>?_)
     ·have e4:g.status=4:=by simpa using h15
      refine sq (rgs [CG.pure (.bool (F6 g.why (insOf p g).op))] rfl ?_ ?_)
      ·exact Qr _ _
      refine WP.ret ?_;change Fin ..;refine fin1 hT (by rfl) (fin _ ?_);simp [e4]
     ·have e4:g.status≠4:=by simpa using h15
      refine sg rfl ?_;refine cd rfl (fun h17=>?_) (fun h17=>?_)
      ·have e3:g.status=3:=by simpa using h17
       refine sg rfl ?_;refine WP.ret ?_;change Fin ..;refine fin1 hT (by rfl) (fin _ ?_);simp only [band];simp [e3]
      ·have e3:g.status≠3:=by simpa using h17
       refine sg rfl ?_;refine cd rfl (fun h19=>?_) (fun h19=>?_)
       ·have e5:g.status=5:=by simpa using h19
        refine sq (rgs [CG.pure (.bool (Ey (insOf p g).op))] rfl ?_ ?_)
        ·have hq:=zU (insOf p g).op;exact au
        refine WP.ret ?_;change Fin ..;refine fin1 hT (by rfl) (fin _ ?_);simp only [band];simp [e5]
       ·have e5:g.status≠5:=by simpa using h19
        refine sk (sq (rg [] rfl ?_));refine WP.ret ?_;change Fin ..;refine fin1 hT (by rfl) (fin _ ?_);simp [e4,e3,e5]
def xJ (p:ay) (s:PSt) (g c:Int):Prop:=0≤g∧g<s.count∧(goI s g).status=2∧(insOf p (goI s g)).op=58∧(insOf p (goI s g)).a=c
instance (p:ay) (s:PSt) (g c:Int):Decidable (xJ p s g c):=by unfold xJ;infer_instance
def Rl (p:ay) (s:PSt):Prop:=s.count≤6 ∧ ∀ k:Nat,(k:Int)<s.count→Ny p (s.gos.getD k go0)
theorem J5 (p:ay) (s:PSt) (g c:Int) (hg:Rl p s):AC Tryz.prog T aV 238 [aC p,encS s,.int g,.int c] [] (.bool (decide (xJ p s g c))) []:=by
 refine aA hT Tryz.func238 rfl rfl (Nat.le_of_ble_eq_true rfl) ?_;refine sg rfl ?_;refine sq (sq ?_);refine WP.ent (st':=aP [(4,.rp 26 (aC p)),(5,.rp 62 (encS s)),(2,.int g),(3,.int c)] []) (em [(.s 4 0,1),(.s 5 0,1)] ⟨sF,sF,tt⟩ ⟨rq,rq,cq,cq,tt⟩ trivial) ?_;refine rgs [] rfl ?_ ?_
 ·have:=hg.1;simp [-List.getD_eq_getElem?_getD,aj,under];omega
 refine cd rfl (fun h1=>?_) (fun h1=>?_)
 ·simp only [bor]at h1;refine sg rfl ?_;refine WP.ret ?_;change Fin ..;refine fin1 hT (by rfl) (Eq.symm (decide_eq_false fun h=>?_));obtain ⟨a,b,c,_⟩:=h;simp [-List.getD_eq_getElem?_getD]at h1;grind
 ·simp only [bor]at h1;have hh:0≤g∧g<s.count∧(goI s g).status=2:=by simp [-List.getD_eq_getElem?_getD]at h1;grind
  have hf:=hg.2 g.toNat (by omega);have h6:=hg.1
  refine sk (sq (drs [] rfl ?_ ?_))
  ·have h3:=hf.2.1;have h4:=hf.2.2.1;simp only [eP,jv]at h3 h4
   simp [-List.getD_eq_getElem?_getD,aj,under];omega
  refine sg rfl ?_;refine WP.ret ?_;change Fin ..;refine fin1 hT (by rfl) ?_;simp only [band];rw [Bool.eq_iff_iff,decide_eq_true_iff];unfold xJ;simp only [hh,true_and];rw [Bool.and_eq_true,beq_iff_eq,beq_iff_eq]
abbrev MH (p:ay) (c:Nat):Int:=p.chans.getD c 0
abbrev fD (s:PSt) (c:Nat):jw:=s.chans.getD c ch0
def Dw (p:ay) (s:PSt) (c:Nat):Prop:=((0≤(fD s c).len∧(fD s c).len≤MH p c)∧(0≤(fD s c).offer∧(fD s c).offer≤3)∧((fD s c).offer≠0→MH p c=0)) ∧
 (∀ k:Nat,k<4→(fD s c).len≤k→(fD s c).buf.getD k 0=0)∧((fD s c).offer=0→(fD s c).frm=0∧(fD s c).val=0) ∧
 ((fD s c).offer=1→(fD s c).closed=false)∧((fD s c).offer=2∨(fD s c).offer=3→(fD s c).val=0)∧((fD s c).offer=3→(fD s c).closed=true)∧((fD s c).offer≠0→xJ p s (fD s c).frm c)
instance (p:ay) (s:PSt) (c:Nat):Decidable (Dw p s c):=by unfold Dw;infer_instance
def GH (p:ay) (s:PSt) (g:Int):Nat→Nat
 | 0=>0
 | c+1=>GH p s g c+if c<p.chans.length∧(fD s c).offer≠0∧(fD s c).frm=g then 1 else 0
theorem Iy (p:ay) (s:PSt) (g:Int):∀ c,GH p s g c≤c
 | 0=>Nat.le_refl _
 | c+1=>by have:=Iy p s g c;rw [GH];split <;> omega
def yB (p:ay) (s:PSt) (c:Nat):List Int:=(List.range 6).map fun g=>(GH p s (g:Nat) c:Int)
theorem KW (p:ay) (s:PSt) (c:Nat):(yB p s c).length=6:=by simp [yB]
theorem CP (p:ay) (s:PSt) (c:Nat) {g:Nat} (h:g<6):(yB p s c).getD g 0=GH p s (g:Nat) c:=by simp [yB,h]
theorem zY {p:ay} {s:PSt} {c:Nat} (h:¬ (c<p.chans.length∧(fD s c).offer≠0)):yB p s (c+1)=yB p s c:=by
 unfold yB;refine List.map_congr_left fun g hg=>?_;rw [GH,if_neg (fun e=>h ⟨e.1,e.2.1⟩),Nat.add_zero]
theorem KU {p:ay} {s:PSt} {c:Nat} (h:c<p.chans.length∧(fD s c).offer≠0) (hf:0≤(fD s c).frm∧(fD s c).frm<6):(yB p s c).set (fD s c).frm.toNat (GH p s (fD s c).frm c+1)=yB p s (c+1):=by
 refine List.ext_getElem (by simp [yB]) fun i h1 h2=>?_;have hi:i<6:=by simpa [yB]using h2
 rw [List.getElem_set];split
 ·rename_i e;simp only [yB,List.getElem_map,List.getElem_range];have e2:((i:Nat):Int)=(fD s c).frm:=by omega
  rw [e2,GH,if_pos ⟨h.1,h.2,rfl⟩];omega
 ·rename_i e;simp only [yB,List.getElem_map,List.getElem_range];rw [GH,if_neg (fun k=>e (by rw [k.2.2];omega)),Nat.add_zero]
def PV (p:ay) (s:PSt) (k:Nat):Prop:=p.vars.length≤k→s.vars.getD k 0=0
def PG (p:ay) (s:PSt) (k:Nat):Prop:=0≤s.owner.getD k 0∧s.owner.getD k 0≤s.count∧(s.owner.getD k 0≠0→(k:Int)<p.locks)
def PI (p:ay) (s:PSt) (k:Nat):Prop:=((k:Int)<s.count→Ny p (s.gos.getD k go0))∧(s.count≤k→s.gos.getD k go0=go0)
def QK (p:ay) (s:PSt) (k:Nat):Prop:=(k<p.chans.length→Dw p s k)∧(p.chans.length≤k→fD s k=ch0)
def Pv (p:ay) (s:PSt) (k:Nat):Prop:=(s.gos.getD k go0).status=2→GH p s k 4=1
instance (p:ay) (s:PSt) (k:Nat):Decidable (PV p s k):=by unfold PV;infer_instance
instance (p:ay) (s:PSt) (k:Nat):Decidable (PG p s k):=by unfold PG;infer_instance
instance (p:ay) (s:PSt) (k:Nat):Decidable (PI p s k):=by unfold PI;infer_instance
instance (p:ay) (s:PSt) (k:Nat):Decidable (QK p s k):=by unfold QK;infer_instance
instance (p:ay) (s:PSt) (k:Nat):Decidable (Pv p s k):=by unfold Pv;infer_instance
def jf (p:ay) (s:PSt):Prop:=fE p=true∧(1≤s.count∧s.count≤6)∧(∀ k,k<8→PV p s k)∧(∀ k,k<4→PG p s k)∧(∀ k,k<6→PI p s k)∧(∀ k,k<4→QK p s k)∧(∀ k,k<6→Pv p s k)
instance (p:ay) (s:PSt):Decidable (jf p s):=by unfold jf;infer_instance
theorem Gs (p:ay) (s:PSt) (c:Nat) (hp:wG p) (hg:Rl p s) (hc:c<p.chans.length):AC Tryz.prog T aV 190 [aC p,encS s,.int c] [] (.bool (decide (Dw p s c))) []:=by
 refine aA hT Tryz.func190 rfl rfl (Nat.le_of_ble_eq_true rfl) ?_;have hc4:c<4:=Nat.lt_of_lt_of_le hc hp.chans
 have hcap:0≤MH p c∧MH p c≤4:=hp.caps _ (by simp [MH,hc]);refine sg rfl ?_;refine sq ?_;refine WP.ent (st':=aP [(3,.rp 26 (aC p)),(4,.rp 62 (encS s)),(2,.int c)] []) (em [(.s 3 0,1),(.s 4 0,1)] ⟨sF,sF,tt⟩ ⟨rq,rq,cq,tt⟩ trivial) ?_;refine rgs [] rfl ?_ ?_
 ·simp [-List.getD_eq_getElem?_getD,aj,under];omega
 refine sq (sq ?_);refine WP.ent (st':=aP [(7,.rp 56 (fM (fD s c))),(2,.int c),(3,.rp 26 (aC p)),(4,.rp 62 (encS s))] []) (em [(.s 7 0,1)] ⟨sF,tt⟩ ⟨rq,cq,cq,cq,tt⟩ trivial) ?_;refine drs [] rfl ?_ ?_
 ·simp [-List.getD_eq_getElem?_getD,aj,under];omega
 refine cd rfl (fun h2=>?_) (fun h2=>?_)
 ·simp only [bor,band]at h2;refine sg rfl ?_;refine WP.ret ?_;change Fin ..;refine fin1 hT (by rfl) (Eq.symm (decide_eq_false fun h=>?_));have h3:=h.1
  simp [-List.getD_eq_getElem?_getD]at h2 h3;grind
 ·simp only [bor,band]at h2;have h1:(0≤(fD s c).len∧(fD s c).len≤MH p c)∧(0≤(fD s c).offer∧(fD s c).offer≤3)∧((fD s c).offer≠0→MH p c=0):=by
   simp [-List.getD_eq_getElem?_getD]at h2 ⊢;grind
  have hlen:0≤(fD s c).len∧(fD s c).len≤4:=by omega
  refine sk (sq (sq (rgs [] rfl ?_ ?_)))
  ·simp [-List.getD_eq_getElem?_getD,aj,under,rO,slB,capEq];omega
  refine bk ?_;refine WP.loop (α:=Nat) (fun i=>aP [(2,.int c),(3,.rp 26 (aC p)),(4,.rp 62 (encS s)),(7,.rp 56 (fM (fD s c))),(53,.row 2 true (4 - (fD s c).len).toNat (fun j => .int ((fD s c).buf.getD ((fD s c).len.toNat+j) 0))),(54,.int (4 - (fD s c).len).toNat),(55,.int i)] []) (fun i=>i≤(4 - (fD s c).len).toNat ∧ ∀ k:Nat,k<i→(fD s c).buf.getD ((fD s c).len.toNat+k) 0=0) (fun i=>8 - i) ?_ ?_
  ·refine ⟨0,?_,?_⟩
   ·exact ⟨Nat.zero_le _,fun j hj=>by omega⟩
   ·refine em [] trivial ⟨cq,cq,cq,cq,cq,cq,cq,tt⟩ trivial
  ·rintro i ⟨hi,hn⟩;refine sg rfl ?_;refine sq ?_;refine cd rfl (fun h5=>?_) (fun h5=>?_)
   ·have hil:i<(4 - (fD s c).len).toNat:=by simp [-List.getD_eq_getElem?_getD]at h5;omega
    refine sk (sq (bk (sq (rgs [] rfl ?_ ?_))))
    ·simp [-List.getD_eq_getElem?_getD,aj,under];omega
    refine sg rfl ?_;refine cd rfl (fun h7=>?_) (fun h7=>?_)
    ·refine sg rfl ?_;refine WP.ret ?_;change Fin ..;refine fin1 hT (by rfl) (Eq.symm (decide_eq_false fun h=>?_));have h3:=h.2.1 ((fD s c).len.toNat+i) (by omega) (by omega)
     simp [-List.getD_eq_getElem?_getD]at h7;exact h7 h3
    ·refine sk (rg [] rfl ?_);refine ⟨i+1,?_,?_,?_⟩
     ·exact ⟨hil,all_succ hn (by simp [-List.getD_eq_getElem?_getD]at h7;exact h7)⟩
     ·refine em [] trivial ⟨cq,cq,cq,cq,cq,cq,cq,tt⟩ trivial
     ·(try simp only []);first | omega | grind
   ·have hil:i=(4 - (fD s c).len).toNat:=by simp [-List.getD_eq_getElem?_getD]at h5;omega
    have hbuf:∀ k:Nat,k<4→(fD s c).len≤k→(fD s c).buf.getD k 0=0:=fun k h8 h9=>by
     have:=hn (k - (fD s c).len.toNat) (by omega)
     rwa [show (fD s c).len.toNat+(k - (fD s c).len.toNat)=k by omega]at this
    have fin:∀ b:Bool,(b=true↔((fD s c).offer=0→(fD s c).frm=0∧(fD s c).val=0) ∧
     ((fD s c).offer=1→(fD s c).closed=false)∧((fD s c).offer=2∨(fD s c).offer=3→(fD s c).val=0)∧((fD s c).offer=3→(fD s c).closed=true)∧((fD s c).offer≠0→xJ p s (fD s c).frm c))→b=decide (Dw p s c):=fun b hb=>by
     rw [Bool.eq_iff_iff,hb,decide_eq_true_iff];exact ⟨fun h=>⟨h1,hbuf,h⟩,fun h=>h.2.2⟩
    have hw:=J5 p s (fD s c).frm c hg;refine xt (sq (sq (rg [] rfl ?_)));refine bk (sq (rg [] rfl ?_));refine cd rfl (fun h11=>?_) (fun h11=>?_)
    ·have e0:(fD s c).offer=0:=by simp [-List.getD_eq_getElem?_getD]at h11;exact h11
     refine sg rfl ?_;refine WP.ret ?_;change Fin ..;refine fin1 hT (by rfl) (fin _ ?_);simp only [band];simp [-List.getD_eq_getElem?_getD,e0]
    ·have e0:(fD s c).offer≠0:=by simp [-List.getD_eq_getElem?_getD]at h11;exact h11
     refine sg rfl ?_;refine cd rfl (fun h13=>?_) (fun h13=>?_)
     ·have e1:(fD s c).offer=1:=by simp [-List.getD_eq_getElem?_getD]at h13;exact h13
      refine sq (rgs [CG.pure (.bool (decide (xJ p s (fD s c).frm c)))] rfl ?_ ?_)
      ·exact au
      refine WP.ret ?_;change Fin ..;refine fin1 hT (by rfl) (fin _ ?_);simp only [band];simp [-List.getD_eq_getElem?_getD,e1]
     ·have e1:(fD s c).offer≠1:=by simp [-List.getD_eq_getElem?_getD]at h13;exact h13
      refine sg rfl ?_;refine cd rfl (fun h15=>?_) (fun h15=>?_)
      ·have e2:(fD s c).offer=2:=by simp [-List.getD_eq_getElem?_getD]at h15;exact h15
       refine sq (rgs [CG.pure (.bool (decide (xJ p s (fD s c).frm c)))] rfl ?_ ?_)
       ·exact au
       refine WP.ret ?_;change Fin ..;refine fin1 hT (by rfl) (fin _ ?_);simp only [band];simp [-List.getD_eq_getElem?_getD,e2]
      ·have e2:(fD s c).offer≠2:=by simp [-List.getD_eq_getElem?_getD]at h15;exact h15
       have e3:(fD s c).offer=3:=by omega
       refine sk (sq (rgs [CG.pure (.bool (decide (xJ p s (fD s c).frm c)))] rfl ?_ ?_))
       ·exact au
       refine WP.ret ?_;change Fin ..;refine fin1 hT (by rfl) (fin _ ?_);simp only [band];simp [-List.getD_eq_getElem?_getD,e3];grind
theorem jB {s:PSt} (h:OkS s) (k:Nat):KR (s.gos.getD k go0):=by
 rw [List.getD_eq_getElem?_getD];cases hk:s.gos[k]? with
 | none=>rfl
 | some g=>exact h.go g (List.mem_of_getElem? hk)
theorem lW {s:PSt} (h:OkS s) (k:Nat):Nr (s.chans.getD k ch0):=by
 rw [List.getD_eq_getElem?_getD];cases hk:s.chans[k]? with
 | none=>rfl
 | some g=>exact h.ch g (List.mem_of_getElem? hk)
theorem Qy {g:PGo} (h:KR g):(g.status==0&&(g.func==0&&(g.pc==0&&(g.why==0&&(true&&g.regs.getD 0 0==0&&g.regs.getD 1 0==0&&g.regs.getD 2 0==0&&g.regs.getD 3 0==0&&g.regs.getD 4 0==0&&g.regs.getD 5 0==0&&g.regs.getD 6 0==0&&g.regs.getD 7 0==0&&true)))))=decide (g=go0):=by
 obtain ⟨a,b,c,d,l⟩:=g
 match l,h with
 | [x0,x1,x2,x3,x4,x5,x6,x7],_ =>
  rw [Bool.eq_iff_iff];simp [go0];grind
theorem QM {c:jw} (h:Nr c):(true&&c.buf.getD 0 0==0&&c.buf.getD 1 0==0&&c.buf.getD 2 0==0&&c.buf.getD 3 0==0&&(c.len==0&&(c.closed==false&&(c.offer==0&&(c.frm==0&&(c.val==0&&true))))))=decide (c=ch0):=by
 obtain ⟨l,a,b,c,d,e⟩:=c
 match l,h with
 | [x0,x1,x2,x3],_ =>
  rw [Bool.eq_iff_iff];simp [ch0];grind
theorem Rk (p:ay) (s:PSt):(AV.agg 279 6 fun _=>AV.int 0)=mQ 279 6 .i64 (yB p s 0):=aW fun i=>by match i with | 0 | 1 | 2 | 3 | 4 | 5=>rfl | i+6=>rfl
theorem DI (p:ay) (s:PSt) (ho:OkS s):AC Tryz.prog T aV 129 [aC p,encS s] [] (.bool (decide (jf p s))) []:=by
 refine aA hT Tryz.func129 rfl rfl (Nat.le_of_ble_eq_true rfl) ?_;refine sg rfl ?_;refine sq (sq ?_);refine WP.ent (st':=aP [(2,.rp 26 (aC p)),(3,.rp 62 (encS s))] []) (em [(.s 2 0,1),(.s 3 0,1)] ⟨sF,sF,tt⟩ ⟨rq,rq,tt⟩ trivial) ?_;refine rgs [CG.pure (.bool (fE p))] rfl ?_ ?_
 ·have hq:=tV p;exact au
 refine cd rfl (fun h1=>?_) (fun h1=>?_)
 ·simp only [bor]at h1;refine sg rfl ?_;refine WP.ret ?_;change Fin ..;refine fin1 hT (by rfl) (Eq.symm (decide_eq_false fun h=>?_));have h2:=h.1;have h3:=h.2.1
  simp [-List.getD_eq_getElem?_getD,h2]at h1;omega
 ·simp only [bor]at h1;have hr:fE p=true∧(1≤s.count∧s.count≤6):=by simp [-List.getD_eq_getElem?_getD]at h1;cases hz:fE p <;> simp [hz]at h1 ⊢ <;> omega
  have hp:=o9 hr.1;have hpl:p.locks≤4:=hp.locks.2
  refine sk (sq (sq (rg [] rfl ?_)));refine bk ?_;refine WP.loop (α:=Nat) (fun i=>aP [(2,.rp 26 (aC p)),(3,.rp 62 (encS s)),(30,mQ 52 8 .i64 s.vars),(31,.int i)] []) (fun i=>i≤8 ∧ ∀ k,k<i→PV p s k) (fun i=>8 - i) ?_ ?_
  ·refine ⟨0,?_,?_⟩
   ·exact ⟨Nat.zero_le _,fun j hj=>by omega⟩
   ·refine em [] trivial ⟨cq,cq,cq,cq,tt⟩ trivial
  ·rintro i ⟨hi,hn⟩;refine sg rfl ?_;refine sq ?_;refine cd rfl (fun h4=>?_) (fun h4=>?_)
   ·have hil:i<8:=by simp [-List.getD_eq_getElem?_getD]at h4;omega
    refine sk (sq (bk (sq (rgs [] rfl ?_ ?_))))
    ·simp [-List.getD_eq_getElem?_getD,aj,under];omega
    refine sg rfl ?_;refine cd rfl (fun h6=>?_) (fun h6=>?_)
    ·simp only [band]at h6;refine sg rfl ?_;refine WP.ret ?_;change Fin ..;refine fin1 hT (by rfl) (Eq.symm (decide_eq_false fun h=>?_));have h3:=h.2.2.1 i hil
     unfold PV at h3;simp [-List.getD_eq_getElem?_getD]at h6;exact h6.2 (h3 (by omega))
    ·simp only [band]at h6;refine sk (rg [] rfl ?_);refine ⟨i+1,?_,?_,?_⟩
     ·exact ⟨hil,all_succ hn (fun h=>by simp [-List.getD_eq_getElem?_getD]at h6;exact h6 (by omega))⟩
     ·refine em [] trivial ⟨cq,cq,cq,cq,tt⟩ trivial
     ·(try simp only []);first | omega | grind
   ·have hil:i=8:=by simp [-List.getD_eq_getElem?_getD]at h4;omega
    subst hil;refine xt (sq (sq (rg [] rfl ?_)));refine bk ?_;refine WP.loop (α:=Nat) (fun j=>aP [(2,.rp 26 (aC p)),(3,.rp 62 (encS s)),(46,mQ 53 4 .i64 s.owner),(47,.int j)] []) (fun j=>j≤4 ∧ ∀ k,k<j→PG p s k) (fun j=>4 - j) ?_ ?_
    ·refine ⟨0,?_,?_⟩
     ·exact ⟨Nat.zero_le _,fun j hj=>by omega⟩
     ·refine em [] trivial ⟨cq,cq,cq,cq,tt⟩ trivial
    ·rintro j ⟨hj,hno⟩;refine sg rfl ?_;refine sq ?_;refine cd rfl (fun h10=>?_) (fun h10=>?_)
     ·have hjl:j<4:=by simp [-List.getD_eq_getElem?_getD]at h10;omega
      refine sk (sq (bk (sq (rgs [] rfl ?_ ?_))))
      ·simp [-List.getD_eq_getElem?_getD,aj,under];omega
      refine sg rfl ?_;refine cd rfl (fun h12=>?_) (fun h12=>?_)
      ·simp only [band,bor]at h12;refine sg rfl ?_;refine WP.ret ?_;change Fin ..;refine fin1 hT (by rfl) (Eq.symm (decide_eq_false fun h=>?_));have h3:=h.2.2.2.1 j hjl
       unfold PG at h3;simp [-List.getD_eq_getElem?_getD]at h12;grind
      ·simp only [band,bor]at h12;refine sk (rg [] rfl ?_);refine ⟨j+1,?_,?_,?_⟩
       ·exact ⟨hjl,all_succ hno (by unfold PG;simp [-List.getD_eq_getElem?_getD]at h12;grind)⟩
       ·refine em [] trivial ⟨cq,cq,cq,cq,tt⟩ trivial
       ·(try simp only []);first | omega | grind
     ·have hjl:j=4:=by simp [-List.getD_eq_getElem?_getD]at h10;omega
      subst hjl;refine xt (sq (sq (rg [] rfl ?_)));refine bk ?_;refine WP.loop (α:=Nat) (fun k=>aP [(2,.rp 26 (aC p)),(3,.rp 62 (encS s)),(71,BA 60 6 bH go0 s.gos),(72,.int k)] []) (fun k=>k≤6 ∧ ∀ j,j<k→PI p s j) (fun k=>6 - k) ?_ ?_
      ·refine ⟨0,?_,?_⟩
       ·exact ⟨Nat.zero_le _,fun j hj=>by omega⟩
       ·refine em [] trivial ⟨cq,cq,cq,cq,tt⟩ trivial
      ·rintro k ⟨hk,hng⟩;refine sg rfl ?_;refine sq ?_;refine cd rfl (fun h16=>?_) (fun h16=>?_)
       ·have hkl:k<6:=by simp [-List.getD_eq_getElem?_getD]at h16;omega
        refine sk (sq (bk (sq (rgs [] rfl ?_ ?_))))
        ·simp [-List.getD_eq_getElem?_getD,aj,under];omega
        refine sq (rgs [CG.pure (.bool (decide (Ny p (s.gos.getD k go0))))] rfl ?_ ?_)
        ·have hq:=OV p (s.gos.getD k go0);exact au
        refine cd rfl (fun h18=>?_) (fun h18=>?_)
        ·simp only [band,bor,Int.toNat_natCast]at h18;rw [Qy (jB ho k)]at h18;refine sg rfl ?_;refine WP.ret ?_;change Fin ..;refine fin1 hT (by rfl) (Eq.symm (decide_eq_false fun h=>?_));have h3:=h.2.2.2.2.1 k hkl
         unfold PI at h3;simp [-List.getD_eq_getElem?_getD]at h18;grind
        ·simp only [band,bor,Int.toNat_natCast]at h18;rw [Qy (jB ho k)]at h18;refine sk (rg [] rfl ?_);refine ⟨k+1,?_,?_,?_⟩
         ·exact ⟨hkl,all_succ hng (by unfold PI;simp [-List.getD_eq_getElem?_getD]at h18;grind)⟩
         ·refine em [] trivial ⟨cq,cq,cq,cq,tt⟩ trivial
         ·(try simp only []);first | omega | grind
       ·have hkl:k=6:=by simp [-List.getD_eq_getElem?_getD]at h16;omega
        subst hkl;have hgp:Rl p s:=⟨hr.2.2,fun k hk=>(hng k (by omega)).1 hk⟩
        refine xt (sq (rg [] rfl ?_));refine sq (sq (rg [] rfl ?_));refine bk ?_;refine WP.loop (α:=Nat) (fun c=>aP [(2,.rp 26 (aC p)),(3,.rp 62 (encS s)),(11,.ptr (.s 11 0) 1 0 []),(100,BA 57 4 fM ch0 s.chans),(101,.int c)] [(.s 11 0,.cells ⟨279,1,fun _=>mQ 279 6 .i64 (yB p s c),0⟩)]) (fun c=>c≤4 ∧ ∀ j,j<c→QK p s j) (fun c=>4 - c) ?_ ?_
        ·refine ⟨0,?_,?_⟩
         ·exact ⟨Nat.zero_le _,fun j hj=>by omega⟩
         ·refine em [] trivial ⟨cq,cq,cq,cq,cq,tt⟩ ⟨obs rfl (hg:=q0 (ah (Rk p s))),tt⟩
        ·rintro c ⟨hc,hnc⟩;refine sg rfl ?_;refine sq ?_;refine cd rfl (fun h23=>?_) (fun h23=>?_)
         ·have hcl:c<4:=by simp [-List.getD_eq_getElem?_getD]at h23;omega
          refine sk (sq (bk (sq (rgs [] rfl ?_ ?_))))
          ·simp [-List.getD_eq_getElem?_getD,aj,under];omega
          refine sq (sq (rg [] rfl ?_));refine cd rfl (fun h25=>?_) (fun h25=>?_)
          ·have hpc:p.chans.length≤c:=by simp [-List.getD_eq_getElem?_getD]at h25;omega
           refine sq (sq (rg [] rfl ?_));refine cd rfl (fun h26=>?_) (fun h26=>?_)
           ·simp only [Int.toNat_natCast]at h26;rw [QM (lW ho c)]at h26;refine sg rfl ?_;refine WP.ret ?_;change Fin ..;refine fin1 hT (by rfl) (Eq.symm (decide_eq_false fun h=>?_));have h3:=h.2.2.2.2.2.1 c hcl
            unfold QK at h3;simp [-List.getD_eq_getElem?_getD]at h26;exact h26 (h3.2 hpc)
           ·simp only [Int.toNat_natCast]at h26;rw [QM (lW ho c)]at h26;refine sk (xt (rg [] rfl ?_));refine ⟨c+1,?_,?_,?_⟩
            ·exact ⟨hcl,all_succ hnc ⟨fun h=>by omega,fun _=>by simp [-List.getD_eq_getElem?_getD]at h26;exact h26⟩⟩
            ·refine em [] trivial ⟨cq,cq,cq,cq,cq,tt⟩ ⟨obs rfl (hg:=q0 (ah (by rw [zY (by omega)]))),tt⟩
            ·(try simp only []);first | omega | grind
          ·have hpc:c<p.chans.length:=by simp [-List.getD_eq_getElem?_getD]at h25;omega
           refine sk (sq (sq (rgs [CG.pure (.bool (decide (Dw p s c)))] rfl ?_ ?_)))
           ·have hq:=Gs p s c hp hgp hpc;exact au
           refine cd rfl (fun h28=>?_) (fun h28=>?_)
           ·refine sg rfl ?_;refine WP.ret ?_;change Fin ..;refine fin1 hT (by rfl) (Eq.symm (decide_eq_false fun h=>?_));have h3:=(h.2.2.2.2.2.1 c hcl).1 hpc
            simp [h3]at h28
           ·have hch:Dw p s c:=by simpa using h28
            refine sk (sq (rg [] rfl ?_));refine cd rfl (fun h30=>?_) (fun h30=>?_)
            ·have hof:(fD s c).offer≠0:=by simp [-List.getD_eq_getElem?_getD]at h30;exact h30
             have hfr:=hch.2.2.2.2.2.2 hof;have hfr2:0≤(fD s c).frm∧(fD s c).frm<6:=⟨hfr.1,by have:=hfr.2.1;omega⟩
             refine rgs [] rfl ?_ ?_
             ·simp [-List.getD_eq_getElem?_getD,aj,under];omega
             refine rg [] rfl ?_;have hl:=Iy p s (fD s c).frm c
             have h0:=CP p s c (g:=(fD s c).frm.toNat) (by omega);rw [Int.toNat_of_nonneg hfr2.1]at h0;have hE:(mQ 279 6 .i64 (yB p s c)).put [(fD s c).frm.toNat] (.int (IntKind.i64.wrap ((yB p s c).getD (fD s c).frm.toNat 0+1)))=mQ 279 6 .i64 (yB p s (c+1)):=by
              refine (qH (by rw [KW];omega)).trans (congrArg (mQ _ _ _) (Eq.trans ?_ (KU ⟨hpc,hof⟩ hfr2)));rw [h0,cu (by omega) (by omega)]
             refine ⟨c+1,?_,?_,?_⟩
             ·exact ⟨hcl,all_succ hnc ⟨fun _=>hch,fun h=>by omega⟩⟩
             ·refine em [] trivial ⟨cq,cq,cq,cq,cq,tt⟩ ⟨obs rfl (hg:=q0 (ah hE)),tt⟩
             ·(try simp only []);first | omega | grind
            ·refine sk (rg [] rfl ?_);refine ⟨c+1,?_,?_,?_⟩
             ·exact ⟨hcl,all_succ hnc ⟨fun _=>hch,fun h=>by omega⟩⟩
             ·refine em [] trivial ⟨cq,cq,cq,cq,cq,tt⟩ ⟨obs rfl (hg:=q0 (ah (by rw [zY (fun h=>by simp [-List.getD_eq_getElem?_getD]at h30;exact h.2 h30)]))),tt⟩
             ·(try simp only []);first | omega | grind
         ·have hcl:c=4:=by simp [-List.getD_eq_getElem?_getD]at h23;omega
          subst hcl;refine xt (sq (sq (rg [] rfl ?_)));refine bk ?_;refine WP.loop (α:=Nat) (fun i=>aP [(3,.rp 62 (encS s)),(11,.ptr (.s 11 0) 1 0 []),(129,BA 60 6 bH go0 s.gos),(130,.int i)] [(.s 11 0,.cells ⟨279,1,fun _=>mQ 279 6 .i64 (yB p s 4),0⟩)]) (fun i=>i≤6 ∧ ∀ j,j<i→Pv p s j) (fun i=>6 - i) ?_ ?_
          ·refine ⟨0,?_,?_⟩
           ·exact ⟨Nat.zero_le _,fun j hj=>by omega⟩
           ·refine em [] trivial ⟨cq,cq,cq,cq,tt⟩ ⟨obs rfl,tt⟩
          ·rintro i ⟨hi,hni⟩;refine sg rfl ?_;refine sq ?_;refine cd rfl (fun h34=>?_) (fun h34=>?_)
           ·have hil:i<6:=by simp [-List.getD_eq_getElem?_getD]at h34;omega
            refine sk (sq (bk (sq (rgs [] rfl ?_ ?_))))
            ·simp [-List.getD_eq_getElem?_getD,aj,under];omega
            refine sq (rgs [] rfl ?_ ?_)
            ·simp [-List.getD_eq_getElem?_getD,aj,under];omega
            refine cd rfl (fun h36=>?_) (fun h36=>?_)
            ·simp only [band,bor,Int.toNat_natCast]at h36;rw [CP p s 4 hil]at h36;refine sg rfl ?_;refine WP.ret ?_;change Fin ..;refine fin1 hT (by rfl) (Eq.symm (decide_eq_false fun h=>?_));have h3:=h.2.2.2.2.2.2 i hil
             unfold Pv at h3;simp [-List.getD_eq_getElem?_getD]at h36;grind
            ·simp only [band,bor,Int.toNat_natCast]at h36;rw [CP p s 4 hil]at h36;refine sk (rg [] rfl ?_);refine ⟨i+1,?_,?_,?_⟩
             ·exact ⟨hil,all_succ hni (by unfold Pv;simp [-List.getD_eq_getElem?_getD]at h36;grind)⟩
             ·refine em [] trivial ⟨cq,cq,cq,cq,tt⟩ ⟨obs rfl,tt⟩
             ·(try simp only []);first | omega | grind
           ·have hil:i=6:=by simp [-List.getD_eq_getElem?_getD]at h34;omega
            subst hil;refine xt (sq (rg [] rfl ?_));exact WP.ret (fin1 hT (by rfl) (Eq.symm (decide_eq_true ⟨hr.1,hr.2,hn,hno,hng,hnc,hni⟩)))
section
variable {P:Program} {T:Nat→TI} {N:Nat}
theorem AC.of_calls {f:FuncId} {xs:List Value} {r:Value} {ra:AV} (hc:callable P f) (hr:∀ (I:Imm) (ρ:Pl),gI T N I ρ ra r)
 (h:∀ w:World,(∀ (b o n:Nat),(T b).glb[o]? = some n→w.cell? ⟨b,o,none⟩=some (.int .u8 n))→Calls P f xs.toArray w fun e w'=>e = .returned r∧w'=w):AC P T N f (xs.map .v) [] ra []:=by
 refine ⟨hc,fun I ρ w vs hl hv hw=>?_⟩;have e:vs=xs:=by
  refine List.ext_getElem (by simpa using hl) fun i h1 h2=>?_;have:=hv i (.v xs[i]) vs[i] (by simp [h2]) (by simp [h1])
  exact (this.v).1
 subst e;refine (h w (fun b o n hg=>hw.imm _ _ _ (hw.gl b o n hg))).mono ?_;rintro e w' ⟨rfl,rfl⟩;exact ⟨r,I,ρ,rfl,Ev.refl _ _ _,hr I ρ,hw⟩
theorem vI (hT:TOK P T N) {nt k j t i:Nat} {st:St} {y:AV} {a e:Int} {B:Blk} (h:st.t k=some (.always,.ptr (.s j 0) 1 0 [])) (h2:st.t i=some (.always,.int a)) (hm:st.m (.s j 0)=some (.cells B)) (hy:Conv st.m (fun id=>eH id []) T (B.get 0) y) (he:a=e)
 (hno:dw y=true:=by rfl) (hok:dM [.s j 0] y=true:=by rfl) (hnt:mJ y=true:=by rfl) (hik:Nat.beq i k=false:=by rfl) (hty:B.ty=t:=by rfl) (hn:B.n=1:=by rfl) (hfz:B.fz=0:=by rfl):Fin T N nt 0 [.cell k t,.tmp i] (.tup [y,.int e]) [] st:=by
 obtain ⟨ty,n,get,fz⟩:=B;simp only at hty hn hfz hy;subst hty hn hfz he;refine Fin.ent (Ent.mk (P:=P) hT [] (ts:=[(k,.ptr (.s j 0) 1 0 []),(i,.int a)]) (ms:=[(.s j 0,.cells ⟨ty,1,fun _=>y,0⟩)]) trivial ⟨⟨by simp [dM,fV,aN],_,h,ah rfl⟩,⟨rfl,_,h2,ah rfl⟩,tt⟩ ⟨⟨fun _ _=>hok,.inl ⟨_,hm,_,_,rfl,Nat.le_refl _,Nat.zero_le _,Nat.zero_le _,q0 hy⟩⟩,tt⟩ rfl) ?_;have h1:(aP [(k,AV.ptr (.s j 0) 1 0 []),(i,.int a)] [(.s j 0,Ob.cells ⟨ty,1,fun _=>y,0⟩)]).m (.s j 0)=some (.cells ⟨ty,1,fun _=>y,0⟩):=by simp [aP,kC,aN]
 have hkk:Nat.beq k k=true:=by simp
 have hii:Nat.beq i i=true:=by simp
 refine aH hT [(.s j 0,1)] (ts:=[(k,.rp ty y),(i,.int a)]) (l:=[y,.int a]) ⟨⟨_,h1,Nat.le_refl _⟩,tt⟩ ⟨⟨rfl,.ptr (.s j 0) 1 0 [],by simp only [aP,kF,hkk];rfl,?_⟩,⟨rfl,_,by simp only [aP,kF,hik,hii];rfl,ah rfl⟩,tt⟩ trivial rfl ?_ rfl
 ·exact eY h1 rfl (by simp [eH,aN]) rfl (by show y.at []=y;cases y <;> rfl) hno
 ·simp only [BG,aP,kF,hkk,hii,hik,cond_true,cond_false,Option.map_some,ldA,CS,aJ,nOf,hnt];have ht:Nat.beq ty ty=true:=by simp
  simp [ldA,ht,show mJ (AV.int a)=true from rfl,nOf,fG,hnt]
theorem xu (hT:TOK P T N) {nt k j t k' j' t' i:Nat} {st:St} {y y':AV} {a e:Int} {B B':Blk} (h:st.t k=some (.always,.ptr (.s j 0) 1 0 [])) (h':st.t k'=some (.always,.ptr (.s j' 0) 1 0 [])) (h2:st.t i=some (.always,.int a)) (hm:st.m (.s j 0)=some (.cells B)) (hm':st.m (.s j' 0)=some (.cells B'))
 (hy:Conv st.m (fun id=>eH id []) T (B.get 0) y) (hy':Conv st.m (fun id=>eH id []) T (B'.get 0) y') (he:a=e)
 (hno:dw y=true:=by rfl) (hok:dM [.s j 0,.s j' 0] y=true:=by rfl) (hnt:mJ y=true:=by rfl) (hno':dw y'=true:=by rfl) (hok':dM [.s j 0,.s j' 0] y'=true:=by rfl) (hnt':mJ y'=true:=by rfl) (hik:Nat.beq i k=false:=by rfl) (hik':Nat.beq i k'=false:=by rfl) (hkk':Nat.beq k' k=false:=by rfl) (hjj:Nat.beq j' j=false:=by rfl)
 (hty:B.ty=t:=by rfl) (hn:B.n=1:=by rfl) (hfz:B.fz=0:=by rfl) (hty':B'.ty=t':=by rfl) (hn':B'.n=1:=by rfl) (hfz':B'.fz=0:=by rfl):Fin T N nt 0 [.cell k t,.cell k' t',.tmp i] (.tup [y,y',.int e]) [] st:=by
 obtain ⟨ty,n,get,fz⟩:=B;obtain ⟨ty',n',get',fz'⟩:=B';simp only at hty hn hfz hy hty' hn' hfz' hy';subst hty hn hfz he hty' hn' hfz';have hkk:Nat.beq k k=true:=by simp
 have hkk2:Nat.beq k' k'=true:=by simp
 have hii:Nat.beq i i=true:=by simp
 have hs1:Id.beq (.s j 0) (.s j 0)=true:=aN _;have hs2:Id.beq (.s j' 0) (.s j' 0)=true:=aN _
 have hs3:Id.beq (.s j' 0) (.s j 0)=false:=by simp [Id.beq,hjj]
 refine Fin.ent (Ent.mk (P:=P) hT [] (ts:=[(k,.ptr (.s j 0) 1 0 []),(k',.ptr (.s j' 0) 1 0 []),(i,.int a)]) (ms:=[(.s j 0,.cells ⟨ty,1,fun _=>y,0⟩),(.s j' 0,.cells ⟨ty',1,fun _=>y',0⟩)]) trivial ⟨⟨by simp [dM,fV,aN],_,h,ah rfl⟩,⟨by simp [dM,fV,aN],_,h',ah rfl⟩,⟨rfl,_,h2,ah rfl⟩,tt⟩
  ⟨⟨fun _ _=>hok,.inl ⟨_,hm,_,_,rfl,Nat.le_refl _,Nat.zero_le _,Nat.zero_le _,q0 hy⟩⟩,⟨fun _ _=>hok',.inl ⟨_,hm',_,_,rfl,Nat.le_refl _,Nat.zero_le _,Nat.zero_le _,q0 hy'⟩⟩,tt⟩ rfl) ?_
 have h1:(aP [(k,AV.ptr (.s j 0) 1 0 []),(k',.ptr (.s j' 0) 1 0 []),(i,.int a)] [(.s j 0,Ob.cells ⟨ty,1,fun _=>y,0⟩),(.s j' 0,Ob.cells ⟨ty',1,fun _=>y',0⟩)]).m (.s j 0)=some (.cells ⟨ty,1,fun _=>y,0⟩):=by simp only [aP,kC,hs1];rfl
 have h3:(aP [(k,AV.ptr (.s j 0) 1 0 []),(k',.ptr (.s j' 0) 1 0 []),(i,.int a)] [(.s j 0,Ob.cells ⟨ty,1,fun _=>y,0⟩),(.s j' 0,Ob.cells ⟨ty',1,fun _=>y',0⟩)]).m (.s j' 0)=some (.cells ⟨ty',1,fun _=>y',0⟩):=by simp only [aP,kC,hs2,hs3];rfl
 refine aH hT [(.s j 0,1),(.s j' 0,1)] (ts:=[(k,.rp ty y),(k',.rp ty' y'),(i,.int a)]) (l:=[y,y',.int a]) ⟨⟨_,h1,Nat.le_refl _⟩,⟨_,h3,Nat.le_refl _⟩,tt⟩
  ⟨⟨rfl,.ptr (.s j 0) 1 0 [],by simp only [aP,kF,hkk];rfl,?_⟩,⟨rfl,.ptr (.s j' 0) 1 0 [],by simp only [aP,kF,hkk',hkk2];rfl,?_⟩,⟨rfl,_,by simp only [aP,kF,hik,hik',hii];rfl,ah rfl⟩,tt⟩ trivial rfl ?_ rfl
 ·exact eY h1 rfl (by simp [eH,aN]) rfl (by show y.at []=y;cases y <;> rfl) hno
 ·exact eY h3 rfl (by simp [eH,hs3,aN]) rfl (by show y'.at []=y';cases y' <;> rfl) hno'
 ·have ht:Nat.beq ty ty=true:=by simp
  have ht':Nat.beq ty' ty'=true:=by simp
  simp only [BG,aP,kF,hkk,hkk2,hkk',hii,hik,hik',cond_true,cond_false,Option.map_some];simp [ldA,ht,ht',show mJ (AV.int a)=true from rfl,nOf,fG,hnt,hnt']
end
end Go.Ab
