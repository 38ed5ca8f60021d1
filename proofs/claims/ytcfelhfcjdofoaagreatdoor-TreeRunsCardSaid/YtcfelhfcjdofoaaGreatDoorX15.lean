/- Part 16 of a proof of a statement about the given program: an abstract machine over the model, proved sound, and contracts of the functions that the statement reaches; the last part proves the statement, for every input, with no condition. -/
import Derived.Test.YtcfelhfcjdofoaaGreatDoorX14
import Derived.Test.YtcfelhfcjdofoaaGreatDoorX13
set_option autoImplicit false
set_option linter.unusedSimpArgs false
set_option linter.unusedVariables false
set_option maxHeartbeats 4000000
set_option maxRecDepth 20000
namespace Go.Ab
open Go.Proofs
def ints (f:Bool) (l:List Int):AV := .row 3 f l.length (fun i => .int (l.getD i 0))
theorem cZ {P:Program} {T:Nat→TI} {N nt:Nat} (hT:TOK P T N) {t:Nat→Option (D×AV)} {m:Id→Option Ob} {k:Nat} {b r:Int} (h:t k=some (.always,.v (.int .i64 b))) (e:b=r):Fin T N nt 0 [.tmp k] (.int r) [] ⟨t,m⟩:=by
 subst e;refine ⟨[(k,.int b)],Ent.mk hT [] trivial ⟨⟨rfl,_,h,ah rfl⟩,tt⟩ trivial rfl,([.int b],none),?_,trivial,rfl⟩;simp [FU,aK,lZ,nO]
theorem bor (a b:Bool):(bif a then true else b)=(a||b):=by cases a <;> rfl
theorem band (a b:Bool):(bif a then b else false)=(a&&b):=by cases a <;> rfl
structure ZE where
 atomic:Bool
 init:Int
structure jR where
 op:Int
 a:Int
 b:Int
 c:Int
 n:Int
structure Bz where
 send:Bool
 chan:Int
 reg:Int
 to:Int
structure yP where
 cases:List Bz
 els:Int
structure iL where
 params:Int
 regs:Int
 code:List jR
 sels:List yP
structure ay where
 vars:List ZE
 locks:Int
 chans:List Int
 funcs:List iL
def Dq (x:ZE):AV:=cu 116 [.bool x.atomic,.int x.init]
def aP (x:jR):AV:=cu 120 [.int x.op,.int x.a,.int x.b,.int x.c,.int x.n]
def mP (x:Bz):AV:=cu 215 [.bool x.send,.int x.chan,.int x.reg,.int x.to]
def rowP {α:Type} (t:Nat) (enc:α→AV) (d:α) (l:List α):AV := .row t false l.length (fun i=>enc (l.getD i d))
def EK:Bz:=⟨false,0,0,0⟩
def fD (x:yP):AV:=cu 103 [rowP 215 mP EK x.cases,.int x.els]
def qR:jR:=⟨0,0,0,0,0⟩
def wL:yP:=⟨[],0⟩
def dI (x:iL):AV:=cu 100 [.int x.params,.int x.regs,rowP 120 aP qR x.code,rowP 103 fD wL x.sels]
def RH:ZE:=⟨false,0⟩
def mD:iL:=⟨0,0,[],[]⟩
def aj (x:ay):AV:=cu 26 [rowP 116 Dq RH x.vars,.int x.locks,ints false x.chans,rowP 100 dI mD x.funcs]
def Bc (p:ay) (f:iL):AV:=cu 257 [aj p,dI f]
def bT (n most:Int):Bool:=decide (n≥0)&&decide (n<most)
theorem zu (n m:Int):AC Tryz.prog T bn 260 [.int n,.int m] [] (.bool (bT n m)) []:=by
 refine aA hT Tryz.func260 rfl rfl (Nat.le_of_ble_eq_true rfl) ?_;refine sg rfl ?_;refine sg rfl ?_;refine WP.ret ?_;change Fin ..;exact fin1 hT (by rfl) (by rw [band];rfl)
theorem fV (n m:Int):AC Tryz.prog T bn 150 [.int n,.int m] [] (.bool (bT n m)) []:=by
 refine aA hT Tryz.func150 rfl rfl (Nat.le_of_ble_eq_true rfl) ?_;refine sg rfl ?_;refine sg rfl ?_;refine WP.ret ?_;change Fin ..;exact fin1 hT (by rfl) (by rw [band];rfl)
def fK (n most:Int):Int:=if bT n most then 0 else 36
def gK (f:iL) (n:Int):Int:=if bT n f.regs then 0 else 35
def gy (f:iL) (n:Int):Int:=if bT n f.code.length then 0 else 38
theorem nN (n m:Int):AC Tryz.prog T bn 212 [.int n,.int m] [] (.int (fK n m)) []:=by
 refine aA hT Tryz.func212 rfl rfl (Nat.le_of_ble_eq_true rfl) ?_;refine sg rfl ?_;refine sq (sq (rgs [CG.pure (.bool (bT n m))] rfl ?_ ?_))
 ·exact zu n m
 refine cd rfl (fun h1=>?_) (fun h1=>?_)
 ·have h:bT n m=false:=by simpa using h1
  refine sg rfl ?_;exact WP.ret (cZ hT (by rfl) (by simp [fK,h]))
 ·have h:bT n m=true:=by simpa using h1
  refine sk (sq (rg [] rfl ?_));exact WP.ret (cZ hT (by rfl) (by simp [fK,h]))
theorem qo (p:ay) (f:iL) (n:Int):AC Tryz.prog T bn 213 [.rp 257 (Bc p f),.int n] [] (.int (gK f n)) []:=by
 refine aA hT Tryz.func213 rfl rfl (Nat.le_of_ble_eq_true rfl) ?_;refine sg rfl ?_;refine sq (sq (rgs [CG.pure (.bool (bT n f.regs))] rfl ?_ ?_))
 ·exact zu n f.regs
 refine cd rfl (fun h1=>?_) (fun h1=>?_)
 ·have h:bT n f.regs=false:=by simpa using h1
  refine sg rfl ?_;exact WP.ret (cZ hT (by rfl) (by simp [gK,h]))
 ·have h:bT n f.regs=true:=by simpa using h1
  refine sk (sq (rg [] rfl ?_));exact WP.ret (cZ hT (by rfl) (by simp [gK,h]))
theorem vT (p:ay) (f:iL) (n:Int):AC Tryz.prog T bn 214 [.rp 257 (Bc p f),.int n] [] (.int (gy f n)) []:=by
 refine aA hT Tryz.func214 rfl rfl (Nat.le_of_ble_eq_true rfl) ?_;refine sg rfl ?_;refine sq (sq (rgs [CG.pure (.bool (bT n f.code.length))] rfl ?_ ?_))
 ·exact zu n f.code.length
 refine cd rfl (fun h1=>?_) (fun h1=>?_)
 ·have h:bT n f.code.length=false:=by simpa using h1
  refine sg rfl ?_;exact WP.ret (cZ hT (by rfl) (by simp [gy,h]))
 ·have h:bT n f.code.length=true:=by simpa using h1
  refine sk (sq (rg [] rfl ?_));exact WP.ret (cZ hT (by rfl) (by simp [gy,h]))
def nZ (f:iL) (n k:Int):Int:=if (k==0&&n != 0)||(decide (k>0)&&(decide (n<0)||decide (n>IntKind.i64.wrap (f.regs - k))))then 35 else 0
def dn (p:ay) (n:Int):Int:=if bT n p.vars.length then (if (p.vars.getD n.toNat RH).atomic then 0 else 37)else 36
def aW (p:ay) (f:iL) (c n:Int) (x:jR):Int :=
 if c=111 then (if n = -1 then 0 else gK f n)else if c=114 then gK f n else if c=119 then gK f n else
 if c=118 then fK n p.vars.length else if c=97 then dn p n else if c=108 then fK n p.locks else
 if c=99 then fK n p.chans.length else if c=115 then fK n f.sels.length else if c=102 then fK n p.funcs.length else
 if c=116 then gy f n else if c=112 then nZ f n (p.funcs.getD x.b.toNat mD).params else 0
theorem oO {n m:Int} (h:fK n m=0):0≤n∧n<m:=by
 unfold fK at h;split at h
 ·rename_i hw;simpa [bT]using hw
 ·cases h
theorem Nv (p:ay) (f:iL) (c n:Int) (x:jR) (hx:c=112→0≤x.b∧x.b<p.funcs.length):AC Tryz.prog T bn 217 [.rp 257 (Bc p f),.v (.int .u8 c),.int n,aP x] [] (.int (aW p f c n x)) []:=by
 refine aA hT Tryz.func217 rfl rfl (Nat.le_of_ble_eq_true rfl) ?_;refine sg rfl ?_;refine sq (sq (rg [] rfl ?_));refine bk (sq (rg [] rfl ?_));refine cd rfl (fun h2=>?_) (fun h2=>?_)
 ·refine sq (sq (rg [] rfl ?_));refine cd rfl (fun h3=>?_) (fun h3=>?_)
  ·refine sg rfl ?_;refine WP.ret ?_;change Fin ..;refine cZ hT (by rfl) ?_
   first | (simp_all [aW];done) | (simp_all [aW,dn,fK];done) | (simp_all [aW,dn,fK,nZ,bor,band];done)
  ·refine sk (sq (rgs [CG.pure (.int (gK f n))] rfl ?_ ?_))
   ·exact qo p f n
   refine WP.ret ?_;change Fin ..;refine cZ hT (by rfl) ?_
   first | (simp_all [aW];done) | (simp_all [aW,dn,fK];done) | (simp_all [aW,dn,fK,nZ,bor,band];done)
 ·refine sq (sq (rg [] rfl ?_));refine cd rfl (fun h6=>?_) (fun h6=>?_)
  ·refine sk ?_;refine cd rfl (fun h6=>?_) (fun h6=>?_)
   ·refine sq (rgs [CG.pure (.int (gK f n))] rfl ?_ ?_)
    ·exact qo p f n
    refine WP.ret ?_;change Fin ..;refine cZ hT (by rfl) ?_
    first | (simp_all [aW];done) | (simp_all [aW,dn,fK];done) | (simp_all [aW,dn,fK,nZ,bor,band];done)
   ·simp_all
  ·refine rg [] rfl ?_;refine cd rfl (fun h7=>?_) (fun h7=>?_)
   ·refine sq (rgs [CG.pure (.int (gK f n))] rfl ?_ ?_)
    ·exact qo p f n
    refine WP.ret ?_;change Fin ..;refine cZ hT (by rfl) ?_
    first | (simp_all [aW];done) | (simp_all [aW,dn,fK];done) | (simp_all [aW,dn,fK,nZ,bor,band];done)
   ·refine sg rfl ?_;refine cd rfl (fun h9=>?_) (fun h9=>?_)
    ·refine sq (sq (rgs [CG.pure (.int (fK n p.vars.length))] rfl ?_ ?_))
     ·exact nN n p.vars.length
     refine sg rfl ?_;refine cd rfl (fun h11=>?_) (fun h11=>?_)
     ·refine sg rfl ?_;refine WP.ret ?_;change Fin ..;refine cZ hT (by rfl) ?_
      first | (simp_all [aW];done) | (simp_all [aW,dn,fK];done) | (simp_all [aW,dn,fK,nZ,bor,band];done)
     ·refine sk (sq (rg [] rfl ?_));refine WP.ret ?_;change Fin ..;refine cZ hT (by rfl) ?_
      first | (simp_all [aW];done) | (simp_all [aW,dn,fK];done) | (simp_all [aW,dn,fK,nZ,bor,band];done)
    ·refine sg rfl ?_;refine cd rfl (fun h14=>?_) (fun h14=>?_)
     ·refine sq (sq (rgs [CG.pure (.int (fK n p.vars.length))] rfl ?_ ?_))
      ·exact nN n p.vars.length
      refine sg rfl ?_;refine cd rfl (fun h16=>?_) (fun h16=>?_)
      ·refine sg rfl ?_;refine WP.ret ?_;change Fin ..;refine cZ hT (by rfl) ?_
       first | (simp_all [aW];done) | (simp_all [aW,dn,fK];done) | (simp_all [aW,dn,fK,nZ,bor,band];done)
      ·have hv:=oO (show fK n p.vars.length=0 by simpa using h16);refine sk (sq (rgs [] rfl ?_ ?_))
       ·simp [ak,under];omega
       refine cd rfl (fun h18=>?_) (fun h18=>?_)
       ·refine sg rfl ?_;refine WP.ret ?_;change Fin ..;refine cZ hT (by rfl) ?_
        first | (simp_all [aW];done) | (simp_all [aW,dn,fK];done) | (simp_all [aW,dn,fK,nZ,bor,band];done)
       ·refine sk (sq (rg [] rfl ?_));refine WP.ret ?_;change Fin ..;refine cZ hT (by rfl) ?_
        first | (simp_all [aW];done) | (simp_all [aW,dn,fK];done) | (simp_all [aW,dn,fK,nZ,bor,band];done)
     ·refine sg rfl ?_;refine cd rfl (fun h20=>?_) (fun h20=>?_)
      ·refine sq (rgs [CG.pure (.int (fK n p.locks))] rfl ?_ ?_)
       ·exact nN n p.locks
       refine WP.ret ?_;change Fin ..;refine cZ hT (by rfl) ?_
       first | (simp_all [aW];done) | (simp_all [aW,dn,fK];done) | (simp_all [aW,dn,fK,nZ,bor,band];done)
      ·refine sg rfl ?_;refine cd rfl (fun h22=>?_) (fun h22=>?_)
       ·refine sq (rgs [CG.pure (.int (fK n p.chans.length))] rfl ?_ ?_)
        ·exact nN n p.chans.length
        refine WP.ret ?_;change Fin ..;refine cZ hT (by rfl) ?_
        first | (simp_all [aW];done) | (simp_all [aW,dn,fK];done) | (simp_all [aW,dn,fK,nZ,bor,band];done)
       ·refine sg rfl ?_;refine cd rfl (fun h24=>?_) (fun h24=>?_)
        ·refine sq (rgs [CG.pure (.int (fK n f.sels.length))] rfl ?_ ?_)
         ·exact nN n f.sels.length
         refine WP.ret ?_;change Fin ..;refine cZ hT (by rfl) ?_
         first | (simp_all [aW];done) | (simp_all [aW,dn,fK];done) | (simp_all [aW,dn,fK,nZ,bor,band];done)
        ·refine sg rfl ?_;refine cd rfl (fun h26=>?_) (fun h26=>?_)
         ·refine sq (rgs [CG.pure (.int (fK n p.funcs.length))] rfl ?_ ?_)
          ·exact nN n p.funcs.length
          refine WP.ret ?_;change Fin ..;refine cZ hT (by rfl) ?_
          first | (simp_all [aW];done) | (simp_all [aW,dn,fK];done) | (simp_all [aW,dn,fK,nZ,bor,band];done)
         ·refine sg rfl ?_;refine cd rfl (fun h28=>?_) (fun h28=>?_)
          ·refine sq (rgs [CG.pure (.int (gy f n))] rfl ?_ ?_)
           ·exact vT p f n
           refine WP.ret ?_;change Fin ..;refine cZ hT (by rfl) ?_
           first | (simp_all [aW];done) | (simp_all [aW,dn,fK];done) | (simp_all [aW,dn,fK,nZ,bor,band];done)
          ·refine sg rfl ?_;refine cd rfl (fun h30=>?_) (fun h30=>?_)
           ·have hb:=hx (by simpa using h30);refine sq (drs [] rfl ?_ ?_)
            ·simp [ak,under];omega
            refine sg rfl ?_;refine cd rfl (fun h32=>?_) (fun h32=>?_)
            ·refine sg rfl ?_;refine WP.ret ?_;change Fin ..;refine cZ hT (by rfl) ?_
             first | (simp_all [aW];done) | (simp_all [aW,dn,fK];done) | (simp_all [aW,dn,fK,nZ,bor,band];done)
            ·refine sk (sq (rg [] rfl ?_));refine WP.ret ?_;change Fin ..;refine cZ hT (by rfl) ?_
             first | (simp_all [aW];done) | (simp_all [aW,dn,fK];done) | (simp_all [aW,dn,fK,nZ,bor,band];done)
           ·refine sk (sq (rg [] rfl ?_));refine WP.ret ?_;change Fin ..;refine cZ hT (by rfl) ?_
            first | (simp_all [aW];done) | (simp_all [aW,dn,fK];done) | (simp_all [aW,dn,fK,nZ,bor,band];done)
theorem I8 (p:ay) (f:iL) (c n:Int) (x:jR) (hx:c=112→0≤x.b∧x.b<p.funcs.length):AC Tryz.prog T bn 153 [aj p,dI f,.v (.int .u8 c),.int n,aP x] [] (.int (aW p f c n x)) []:=by
 refine aA hT Tryz.func153 rfl rfl (Nat.le_of_ble_eq_true rfl) ?_;refine sg rfl ?_;refine sq (sq (rg [] rfl ?_));refine bk (sq (sq (rg [] rfl ?_)));refine cd rfl (fun h2=>?_) (fun h2=>?_)
 ·refine sk ?_;refine cd rfl (fun h2=>?_) (fun h2=>?_)
  ·refine sq (rgs [CG.pure (.bool (bT n f.regs))] rfl ?_ ?_)
   ·simp [ak,under,CG.pure];exact fV n f.regs
   refine cd rfl (fun h4=>?_) (fun h4=>?_)
   ·refine sg rfl ?_;refine WP.ret ?_;change Fin ..;refine cZ hT (by rfl) ?_
    first | (simp_all [aW,gK,gy];done) | (simp_all [aW,dn,fK,gK,gy];done) | (simp_all [aW,dn,fK,nZ,bor,band,gK,gy];done)
   ·refine sk (sq (rg [] rfl ?_));refine WP.ret ?_;change Fin ..;refine cZ hT (by rfl) ?_
    first | (simp_all [aW,gK,gy];done) | (simp_all [aW,dn,fK,gK,gy];done) | (simp_all [aW,dn,fK,nZ,bor,band,gK,gy];done)
  ·simp_all
 ·refine rg [] rfl ?_;refine cd rfl (fun h3=>?_) (fun h3=>?_)
  ·refine sq (rgs [CG.pure (.bool (bT n f.regs))] rfl ?_ ?_)
   ·simp [ak,under,CG.pure];exact fV n f.regs
   refine cd rfl (fun h4=>?_) (fun h4=>?_)
   ·refine sg rfl ?_;refine WP.ret ?_;change Fin ..;refine cZ hT (by rfl) ?_
    first | (simp_all [aW,gK,gy];done) | (simp_all [aW,dn,fK,gK,gy];done) | (simp_all [aW,dn,fK,nZ,bor,band,gK,gy];done)
   ·refine sk (sq (rg [] rfl ?_));refine WP.ret ?_;change Fin ..;refine cZ hT (by rfl) ?_
    first | (simp_all [aW,gK,gy];done) | (simp_all [aW,dn,fK,gK,gy];done) | (simp_all [aW,dn,fK,nZ,bor,band,gK,gy];done)
  ·refine sg rfl ?_;refine cd rfl (fun h6=>?_) (fun h6=>?_)
   ·refine sq (rgs [CG.pure (.bool (bT n f.regs))] rfl ?_ ?_)
    ·have hw:=fV n f.regs;simp [ak,under,CG.pure];exact fun _=>hw
    refine cd rfl (fun h7=>?_) (fun h7=>?_)
    ·refine sg rfl ?_;refine WP.ret ?_;change Fin ..;refine cZ hT (by rfl) ?_
     first | (simp_all [aW,gK,gy];done) | (simp_all [aW,dn,fK,gK,gy];done) | (simp_all [aW,dn,fK,nZ,bor,band,gK,gy];done)
    ·refine sk (sq (rg [] rfl ?_));refine WP.ret ?_;change Fin ..;refine cZ hT (by rfl) ?_
     first | (simp_all [aW,gK,gy];done) | (simp_all [aW,dn,fK,gK,gy];done) | (simp_all [aW,dn,fK,nZ,bor,band,gK,gy];done)
   ·refine sg rfl ?_;refine cd rfl (fun h9=>?_) (fun h9=>?_)
    ·have hb:=hx (by simpa using h9);refine sq (rgs [] rfl ?_ ?_)
     ·simp [ak,under];omega
     refine sg rfl ?_;refine cd rfl (fun h11=>?_) (fun h11=>?_)
     ·refine sg rfl ?_;refine WP.ret ?_;change Fin ..;refine cZ hT (by rfl) ?_
      first | (simp_all [aW,gK,gy];done) | (simp_all [aW,dn,fK,gK,gy];done) | (simp_all [aW,dn,fK,nZ,bor,band,gK,gy];done)
     ·refine sk (sq (rg [] rfl ?_));refine WP.ret ?_;change Fin ..;refine cZ hT (by rfl) ?_
      first | (simp_all [aW,gK,gy];done) | (simp_all [aW,dn,fK,gK,gy];done) | (simp_all [aW,dn,fK,nZ,bor,band,gK,gy];done)
    ·refine sg rfl ?_;refine cd rfl (fun h13=>?_) (fun h13=>?_)
     ·refine sq (rgs [CG.pure (.bool (bT n p.vars.length))] rfl ?_ ?_)
      ·have hw:=fV n p.vars.length;simp [ak,under,CG.pure];exact hw
      refine cd rfl (fun h14=>?_) (fun h14=>?_)
      ·refine sg rfl ?_;refine WP.ret ?_;change Fin ..;refine cZ hT (by rfl) ?_
       first | (simp_all [aW,gK,gy];done) | (simp_all [aW,dn,fK,gK,gy];done) | (simp_all [aW,dn,fK,nZ,bor,band,gK,gy];done)
      ·refine sk (sq (rg [] rfl ?_));refine WP.ret ?_;change Fin ..;refine cZ hT (by rfl) ?_
       first | (simp_all [aW,gK,gy];done) | (simp_all [aW,dn,fK,gK,gy];done) | (simp_all [aW,dn,fK,nZ,bor,band,gK,gy];done)
     ·refine sg rfl ?_;refine cd rfl (fun h16=>?_) (fun h16=>?_)
      ·refine sq (sq (rgs [CG.pure (.bool (bT n p.vars.length))] rfl ?_ ?_))
       ·have hw:=fV n p.vars.length;simp [ak,under,CG.pure];exact hw
       refine cd rfl (fun h17=>?_) (fun h17=>?_)
       ·refine sg rfl ?_;refine WP.ret ?_;change Fin ..;refine cZ hT (by rfl) ?_
        first | (simp_all [aW,gK,gy];done) | (simp_all [aW,dn,fK,gK,gy];done) | (simp_all [aW,dn,fK,nZ,bor,band,gK,gy];done)
       ·have hv:0≤n∧n<p.vars.length:=by
         have e:bT n p.vars.length=true:=by simpa using h17
         simpa [bT]using e
        refine sk (sq (rgs [] rfl ?_ ?_))
        ·simp [ak,under];omega
        refine cd rfl (fun h19=>?_) (fun h19=>?_)
        ·refine sg rfl ?_;refine WP.ret ?_;change Fin ..;refine cZ hT (by rfl) ?_
         first | (simp_all [aW,gK,gy];done) | (simp_all [aW,dn,fK,gK,gy];done) | (simp_all [aW,dn,fK,nZ,bor,band,gK,gy];done)
        ·refine sk (sq (rg [] rfl ?_));refine WP.ret ?_;change Fin ..;refine cZ hT (by rfl) ?_
         first | (simp_all [aW,gK,gy];done) | (simp_all [aW,dn,fK,gK,gy];done) | (simp_all [aW,dn,fK,nZ,bor,band,gK,gy];done)
      ·refine sg rfl ?_;refine cd rfl (fun h21=>?_) (fun h21=>?_)
       ·refine sq (rgs [CG.pure (.bool (bT n p.locks))] rfl ?_ ?_)
        ·have hw:=fV n p.locks;simp [ak,under,CG.pure];exact hw
        refine cd rfl (fun h22=>?_) (fun h22=>?_)
        ·refine sg rfl ?_;refine WP.ret ?_;change Fin ..;refine cZ hT (by rfl) ?_
         first | (simp_all [aW,gK,gy];done) | (simp_all [aW,dn,fK,gK,gy];done) | (simp_all [aW,dn,fK,nZ,bor,band,gK,gy];done)
        ·refine sk (sq (rg [] rfl ?_));refine WP.ret ?_;change Fin ..;refine cZ hT (by rfl) ?_
         first | (simp_all [aW,gK,gy];done) | (simp_all [aW,dn,fK,gK,gy];done) | (simp_all [aW,dn,fK,nZ,bor,band,gK,gy];done)
       ·refine sg rfl ?_;refine cd rfl (fun h24=>?_) (fun h24=>?_)
        ·refine sq (rgs [CG.pure (.bool (bT n p.chans.length))] rfl ?_ ?_)
         ·have hw:=fV n p.chans.length;simp [ak,under,CG.pure];exact hw
         refine cd rfl (fun h25=>?_) (fun h25=>?_)
         ·refine sg rfl ?_;refine WP.ret ?_;change Fin ..;refine cZ hT (by rfl) ?_
          first | (simp_all [aW,gK,gy];done) | (simp_all [aW,dn,fK,gK,gy];done) | (simp_all [aW,dn,fK,nZ,bor,band,gK,gy];done)
         ·refine sk (sq (rg [] rfl ?_));refine WP.ret ?_;change Fin ..;refine cZ hT (by rfl) ?_
          first | (simp_all [aW,gK,gy];done) | (simp_all [aW,dn,fK,gK,gy];done) | (simp_all [aW,dn,fK,nZ,bor,band,gK,gy];done)
        ·refine sg rfl ?_;refine cd rfl (fun h27=>?_) (fun h27=>?_)
         ·refine sq (rgs [CG.pure (.bool (bT n f.sels.length))] rfl ?_ ?_)
          ·have hw:=fV n f.sels.length;simp [ak,under,CG.pure];exact hw
          refine cd rfl (fun h28=>?_) (fun h28=>?_)
          ·refine sg rfl ?_;refine WP.ret ?_;change Fin ..;refine cZ hT (by rfl) ?_
           first | (simp_all [aW,gK,gy];done) | (simp_all [aW,dn,fK,gK,gy];done) | (simp_all [aW,dn,fK,nZ,bor,band,gK,gy];done)
          ·refine sk (sq (rg [] rfl ?_));refine WP.ret ?_;change Fin ..;refine cZ hT (by rfl) ?_
           first | (simp_all [aW,gK,gy];done) | (simp_all [aW,dn,fK,gK,gy];done) | (simp_all [aW,dn,fK,nZ,bor,band,gK,gy];done)
         ·refine sg rfl ?_;refine cd rfl (fun h30=>?_) (fun h30=>?_)
          ·refine sq (rgs [CG.pure (.bool (bT n p.funcs.length))] rfl ?_ ?_)
           ·have hw:=fV n p.funcs.length;simp [ak,under,CG.pure];exact hw
           refine cd rfl (fun h31=>?_) (fun h31=>?_)
           ·refine sg rfl ?_;refine WP.ret ?_;change Fin ..;refine cZ hT (by rfl) ?_
            first | (simp_all [aW,gK,gy];done) | (simp_all [aW,dn,fK,gK,gy];done) | (simp_all [aW,dn,fK,nZ,bor,band,gK,gy];done)
           ·refine sk (sq (rg [] rfl ?_));refine WP.ret ?_;change Fin ..;refine cZ hT (by rfl) ?_
            first | (simp_all [aW,gK,gy];done) | (simp_all [aW,dn,fK,gK,gy];done) | (simp_all [aW,dn,fK,nZ,bor,band,gK,gy];done)
          ·refine sg rfl ?_;refine cd rfl (fun h33=>?_) (fun h33=>?_)
           ·refine sq (rgs [CG.pure (.bool (bT n f.code.length))] rfl ?_ ?_)
            ·have hw:=fV n f.code.length;simp [ak,under,CG.pure];exact hw
            refine cd rfl (fun h34=>?_) (fun h34=>?_)
            ·refine sg rfl ?_;refine WP.ret ?_;change Fin ..;refine cZ hT (by rfl) ?_
             first | (simp_all [aW,gK,gy];done) | (simp_all [aW,dn,fK,gK,gy];done) | (simp_all [aW,dn,fK,nZ,bor,band,gK,gy];done)
            ·refine sk (sq (rg [] rfl ?_));refine WP.ret ?_;change Fin ..;refine cZ hT (by rfl) ?_
             first | (simp_all [aW,gK,gy];done) | (simp_all [aW,dn,fK,gK,gy];done) | (simp_all [aW,dn,fK,nZ,bor,band,gK,gy];done)
           ·refine sk (sq (rg [] rfl ?_));refine WP.ret ?_;change Fin ..;refine cZ hT (by rfl) ?_
            first | (simp_all [aW,gK,gy];done) | (simp_all [aW,dn,fK,gK,gy];done) | (simp_all [aW,dn,fK,nZ,bor,band,gK,gy];done)
theorem mX {P:Program} {T:Nat→TI} {N nt:Nat} (hT:TOK P T N) {t:Nat→Option (D×AV)} {m:Id→Option Ob} {k:Nat} {b r:ByteArray} (h:t k=some (.always,.v (.string b))) (e:b=r):Fin T N nt 0 [.tmp k] (.v (.string r)) [] ⟨t,m⟩:=by
 subst e;refine ⟨[(k,.v (.string b))],Ent.mk hT [] trivial ⟨⟨rfl,_,h,ah rfl⟩,tt⟩ trivial rfl,([.v (.string b)],none),?_,trivial,rfl⟩;simp [FU,aK,lZ,nO]
def dF (op:Int):List UInt8 :=
 if 1≤op∧op≤15 then [114,114,45,45]else if 16≤op∧op≤36 then [114,114,114,45]else
 if op=40∨op=44∨op=65 then [114,45,45,110]else if op=41 then [114,114,45,45]else if op=42 then [116,45,45,45]else
 if op=43 then [114,116,45,45]else if op=45∨op=64 then [45,45,45,45]else if op=50 then [114,118,45,45]else
 if op=51 then [118,114,45,45]else if op=52 then [111,97,114,45]else if op=53 then [114,97,114,119]else
 if op=54 then [97,114,45,45]else if op=55∨op=56 then [108,45,45,45]else if op=57 then [114,108,45,45]else
 if op=58 then [99,114,45,45]else if op=59 then [111,99,111,45]else if op=60 then [99,45,45,45]else
 if op=61 then [115,45,45,45]else if op=62 then [111,102,112,45]else if op=63 then [114,45,45,45]else []
def oq (op:Int):ByteArray:=⟨(dF op).toArray⟩
theorem bf {op:Int} {l:List UInt8} (h:dF op=l):(⟨l.toArray⟩:ByteArray)=oq op:=by rw [oq,h]
theorem XT (op:Int):AC Tryz.prog T bn 215 [.int op] [] (.v (.string (oq op))) []:=by
 refine aA hT Tryz.func215 rfl rfl (Nat.le_of_ble_eq_true rfl) ?_;refine sg rfl ?_;refine sq (bk (sq (rg [] rfl ?_)));refine cd rfl (fun h1=>?_) (fun h1=>?_)
 ·refine sg rfl ?_;refine WP.ret ?_;change Fin ..;refine mX hT (by rfl) (bf ?_);simp only [band,Bool.and_eq_true,Bool.and_eq_false_iff,decide_eq_true_eq,decide_eq_false_iff_not,beq_iff_eq,beq_eq_false_iff_ne]at *
  unfold dF
  all_goals (repeat (first | rfl | (rw [if_neg (by omega)]) | (rw [if_pos (by omega)])))
 ·refine sg rfl ?_;refine cd rfl (fun h3=>?_) (fun h3=>?_)
  ·refine sg rfl ?_;refine WP.ret ?_;change Fin ..;refine mX hT (by rfl) (bf ?_);simp only [band,Bool.and_eq_true,Bool.and_eq_false_iff,decide_eq_true_eq,decide_eq_false_iff_not,beq_iff_eq,beq_eq_false_iff_ne]at *
   unfold dF
   all_goals (repeat (first | rfl | (rw [if_neg (by omega)]) | (rw [if_pos (by omega)])))
  ·refine sk (sq (sq (rg [] rfl ?_)));refine bk (sq (sq (rg [] rfl ?_)));refine cd rfl (fun h6=>?_) (fun h6=>?_)
   ·refine sk ?_;refine cd rfl (fun h6=>?_) (fun h6=>?_)
    ·refine sg rfl ?_;refine WP.ret ?_;change Fin ..;refine mX hT (by rfl) (bf ?_);simp only [band,Bool.and_eq_true,Bool.and_eq_false_iff,decide_eq_true_eq,decide_eq_false_iff_not,beq_iff_eq,beq_eq_false_iff_ne]at *
     unfold dF
     all_goals (repeat (first | rfl | (rw [if_neg (by omega)]) | (rw [if_pos (by omega)])))
    ·simp_all
   ·refine sg rfl ?_;refine cd rfl (fun h7=>?_) (fun h7=>?_)
    ·refine sk ?_;refine cd rfl (fun h7=>?_) (fun h7=>?_)
     ·refine sg rfl ?_;refine WP.ret ?_;change Fin ..;refine mX hT (by rfl) (bf ?_);simp only [band,Bool.and_eq_true,Bool.and_eq_false_iff,decide_eq_true_eq,decide_eq_false_iff_not,beq_iff_eq,beq_eq_false_iff_ne]at *
      unfold dF
      all_goals (repeat (first | rfl | (rw [if_neg (by omega)]) | (rw [if_pos (by omega)])))
     ·simp_all
    ·refine rg [] rfl ?_;refine cd rfl (fun h8=>?_) (fun h8=>?_)
     ·refine sg rfl ?_;refine WP.ret ?_;change Fin ..;refine mX hT (by rfl) (bf ?_);simp only [band,Bool.and_eq_true,Bool.and_eq_false_iff,decide_eq_true_eq,decide_eq_false_iff_not,beq_iff_eq,beq_eq_false_iff_ne]at *
      unfold dF
      all_goals (repeat (first | rfl | (rw [if_neg (by omega)]) | (rw [if_pos (by omega)])))
     ·refine sg rfl ?_;refine cd rfl (fun h10=>?_) (fun h10=>?_)
      ·refine sg rfl ?_;refine WP.ret ?_;change Fin ..;refine mX hT (by rfl) (bf ?_);simp only [band,Bool.and_eq_true,Bool.and_eq_false_iff,decide_eq_true_eq,decide_eq_false_iff_not,beq_iff_eq,beq_eq_false_iff_ne]at *
       unfold dF
       all_goals (repeat (first | rfl | (rw [if_neg (by omega)]) | (rw [if_pos (by omega)])))
      ·refine sg rfl ?_;refine cd rfl (fun h12=>?_) (fun h12=>?_)
       ·refine sg rfl ?_;refine WP.ret ?_;change Fin ..;refine mX hT (by rfl) (bf ?_);simp only [band,Bool.and_eq_true,Bool.and_eq_false_iff,decide_eq_true_eq,decide_eq_false_iff_not,beq_iff_eq,beq_eq_false_iff_ne]at *
        unfold dF
        all_goals (repeat (first | rfl | (rw [if_neg (by omega)]) | (rw [if_pos (by omega)])))
       ·refine sg rfl ?_;refine cd rfl (fun h14=>?_) (fun h14=>?_)
        ·refine sg rfl ?_;refine WP.ret ?_;change Fin ..;refine mX hT (by rfl) (bf ?_);simp only [band,Bool.and_eq_true,Bool.and_eq_false_iff,decide_eq_true_eq,decide_eq_false_iff_not,beq_iff_eq,beq_eq_false_iff_ne]at *
         unfold dF
         all_goals (repeat (first | rfl | (rw [if_neg (by omega)]) | (rw [if_pos (by omega)])))
        ·refine sq (sq (rg [] rfl ?_));refine cd rfl (fun h16=>?_) (fun h16=>?_)
         ·refine sk ?_;refine cd rfl (fun h16=>?_) (fun h16=>?_)
          ·refine sg rfl ?_;refine WP.ret ?_;change Fin ..;refine mX hT (by rfl) (bf ?_);simp only [band,Bool.and_eq_true,Bool.and_eq_false_iff,decide_eq_true_eq,decide_eq_false_iff_not,beq_iff_eq,beq_eq_false_iff_ne]at *
           unfold dF
           all_goals (repeat (first | rfl | (rw [if_neg (by omega)]) | (rw [if_pos (by omega)])))
          ·simp_all
         ·refine rg [] rfl ?_;refine cd rfl (fun h17=>?_) (fun h17=>?_)
          ·refine sg rfl ?_;refine WP.ret ?_;change Fin ..;refine mX hT (by rfl) (bf ?_);simp only [band,Bool.and_eq_true,Bool.and_eq_false_iff,decide_eq_true_eq,decide_eq_false_iff_not,beq_iff_eq,beq_eq_false_iff_ne]at *
           unfold dF
           all_goals (repeat (first | rfl | (rw [if_neg (by omega)]) | (rw [if_pos (by omega)])))
          ·refine sg rfl ?_;refine cd rfl (fun h19=>?_) (fun h19=>?_)
           ·refine sg rfl ?_;refine WP.ret ?_;change Fin ..;refine mX hT (by rfl) (bf ?_);simp only [band,Bool.and_eq_true,Bool.and_eq_false_iff,decide_eq_true_eq,decide_eq_false_iff_not,beq_iff_eq,beq_eq_false_iff_ne]at *
            unfold dF
            all_goals (repeat (first | rfl | (rw [if_neg (by omega)]) | (rw [if_pos (by omega)])))
           ·refine sg rfl ?_;refine cd rfl (fun h21=>?_) (fun h21=>?_)
            ·refine sg rfl ?_;refine WP.ret ?_;change Fin ..;refine mX hT (by rfl) (bf ?_);simp only [band,Bool.and_eq_true,Bool.and_eq_false_iff,decide_eq_true_eq,decide_eq_false_iff_not,beq_iff_eq,beq_eq_false_iff_ne]at *
             unfold dF
             all_goals (repeat (first | rfl | (rw [if_neg (by omega)]) | (rw [if_pos (by omega)])))
            ·refine sg rfl ?_;refine cd rfl (fun h23=>?_) (fun h23=>?_)
             ·refine sg rfl ?_;refine WP.ret ?_;change Fin ..;refine mX hT (by rfl) (bf ?_);simp only [band,Bool.and_eq_true,Bool.and_eq_false_iff,decide_eq_true_eq,decide_eq_false_iff_not,beq_iff_eq,beq_eq_false_iff_ne]at *
              unfold dF
              all_goals (repeat (first | rfl | (rw [if_neg (by omega)]) | (rw [if_pos (by omega)])))
             ·refine sg rfl ?_;refine cd rfl (fun h25=>?_) (fun h25=>?_)
              ·refine sg rfl ?_;refine WP.ret ?_;change Fin ..;refine mX hT (by rfl) (bf ?_);simp only [band,Bool.and_eq_true,Bool.and_eq_false_iff,decide_eq_true_eq,decide_eq_false_iff_not,beq_iff_eq,beq_eq_false_iff_ne]at *
               unfold dF
               all_goals (repeat (first | rfl | (rw [if_neg (by omega)]) | (rw [if_pos (by omega)])))
              ·refine sg rfl ?_;refine cd rfl (fun h27=>?_) (fun h27=>?_)
               ·refine sg rfl ?_;refine WP.ret ?_;change Fin ..;refine mX hT (by rfl) (bf ?_);simp only [band,Bool.and_eq_true,Bool.and_eq_false_iff,decide_eq_true_eq,decide_eq_false_iff_not,beq_iff_eq,beq_eq_false_iff_ne]at *
                unfold dF
                all_goals (repeat (first | rfl | (rw [if_neg (by omega)]) | (rw [if_pos (by omega)])))
               ·refine sq (sq (rg [] rfl ?_));refine cd rfl (fun h29=>?_) (fun h29=>?_)
                ·refine sk ?_;refine cd rfl (fun h29=>?_) (fun h29=>?_)
                 ·refine sg rfl ?_;refine WP.ret ?_;change Fin ..;refine mX hT (by rfl) (bf ?_);simp only [band,Bool.and_eq_true,Bool.and_eq_false_iff,decide_eq_true_eq,decide_eq_false_iff_not,beq_iff_eq,beq_eq_false_iff_ne]at *
                  unfold dF
                  all_goals (repeat (first | rfl | (rw [if_neg (by omega)]) | (rw [if_pos (by omega)])))
                 ·simp_all
                ·refine rg [] rfl ?_;refine cd rfl (fun h30=>?_) (fun h30=>?_)
                 ·refine sg rfl ?_;refine WP.ret ?_;change Fin ..;refine mX hT (by rfl) (bf ?_);simp only [band,Bool.and_eq_true,Bool.and_eq_false_iff,decide_eq_true_eq,decide_eq_false_iff_not,beq_iff_eq,beq_eq_false_iff_ne]at *
                  unfold dF
                  all_goals (repeat (first | rfl | (rw [if_neg (by omega)]) | (rw [if_pos (by omega)])))
                 ·refine sg rfl ?_;refine cd rfl (fun h32=>?_) (fun h32=>?_)
                  ·refine sg rfl ?_;refine WP.ret ?_;change Fin ..;refine mX hT (by rfl) (bf ?_);simp only [band,Bool.and_eq_true,Bool.and_eq_false_iff,decide_eq_true_eq,decide_eq_false_iff_not,beq_iff_eq,beq_eq_false_iff_ne]at *
                   unfold dF
                   all_goals (repeat (first | rfl | (rw [if_neg (by omega)]) | (rw [if_pos (by omega)])))
                  ·refine sg rfl ?_;refine cd rfl (fun h34=>?_) (fun h34=>?_)
                   ·refine sg rfl ?_;refine WP.ret ?_;change Fin ..;refine mX hT (by rfl) (bf ?_);simp only [band,Bool.and_eq_true,Bool.and_eq_false_iff,decide_eq_true_eq,decide_eq_false_iff_not,beq_iff_eq,beq_eq_false_iff_ne]at *
                    unfold dF
                    all_goals (repeat (first | rfl | (rw [if_neg (by omega)]) | (rw [if_pos (by omega)])))
                   ·refine sg rfl ?_;refine cd rfl (fun h36=>?_) (fun h36=>?_)
                    ·refine sg rfl ?_;refine WP.ret ?_;change Fin ..;refine mX hT (by rfl) (bf ?_);simp only [band,Bool.and_eq_true,Bool.and_eq_false_iff,decide_eq_true_eq,decide_eq_false_iff_not,beq_iff_eq,beq_eq_false_iff_ne]at *
                     unfold dF
                     all_goals (repeat (first | rfl | (rw [if_neg (by omega)]) | (rw [if_pos (by omega)])))
                    ·refine sg rfl ?_;refine cd rfl (fun h38=>?_) (fun h38=>?_)
                     ·refine sg rfl ?_;refine WP.ret ?_;change Fin ..;refine mX hT (by rfl) (bf ?_);simp only [band,Bool.and_eq_true,Bool.and_eq_false_iff,decide_eq_true_eq,decide_eq_false_iff_not,beq_iff_eq,beq_eq_false_iff_ne]at *
                      unfold dF
                      all_goals (repeat (first | rfl | (rw [if_neg (by omega)]) | (rw [if_pos (by omega)])))
                     ·refine sg rfl ?_;refine cd rfl (fun h40=>?_) (fun h40=>?_)
                      ·refine sg rfl ?_;refine WP.ret ?_;change Fin ..;refine mX hT (by rfl) (bf ?_);simp only [band,Bool.and_eq_true,Bool.and_eq_false_iff,decide_eq_true_eq,decide_eq_false_iff_not,beq_iff_eq,beq_eq_false_iff_ne]at *
                       unfold dF
                       all_goals (repeat (first | rfl | (rw [if_neg (by omega)]) | (rw [if_pos (by omega)])))
                      ·refine sg rfl ?_;refine cd rfl (fun h42=>?_) (fun h42=>?_)
                       ·refine sg rfl ?_;refine WP.ret ?_;change Fin ..;refine mX hT (by rfl) (bf ?_);simp only [band,Bool.and_eq_true,Bool.and_eq_false_iff,decide_eq_true_eq,decide_eq_false_iff_not,beq_iff_eq,beq_eq_false_iff_ne]at *
                        unfold dF
                        all_goals (repeat (first | rfl | (rw [if_neg (by omega)]) | (rw [if_pos (by omega)])))
                       ·refine sg rfl ?_;refine cd rfl (fun h44=>?_) (fun h44=>?_)
                        ·refine sg rfl ?_;refine WP.ret ?_;change Fin ..;refine mX hT (by rfl) (bf ?_);simp only [band,Bool.and_eq_true,Bool.and_eq_false_iff,decide_eq_true_eq,decide_eq_false_iff_not,beq_iff_eq,beq_eq_false_iff_ne]at *
                         unfold dF
                         all_goals (repeat (first | rfl | (rw [if_neg (by omega)]) | (rw [if_pos (by omega)])))
                        ·refine sk (sq (rg [] rfl ?_));refine WP.ret ?_;change Fin ..;refine mX hT (by rfl) (bf ?_);simp only [band,Bool.and_eq_true,Bool.and_eq_false_iff,decide_eq_true_eq,decide_eq_false_iff_not,beq_iff_eq,beq_eq_false_iff_ne]at *
                         unfold dF
                         all_goals (repeat (first | rfl | (rw [if_neg (by omega)]) | (rw [if_pos (by omega)])))
theorem TF (op:Int):AC Tryz.prog T bn 152 [.int op] [] (.v (.string (oq op))) []:=by
 refine aA hT Tryz.func152 rfl rfl (Nat.le_of_ble_eq_true rfl) ?_;refine sg rfl ?_;refine sq (sq (rg [] rfl ?_));refine cd rfl (fun h1=>?_) (fun h1=>?_)
 ·refine sg rfl ?_;refine WP.ret ?_;change Fin ..;refine mX hT (by rfl) (bf ?_);simp only [band,Bool.and_eq_true,Bool.and_eq_false_iff,decide_eq_true_eq,decide_eq_false_iff_not,beq_iff_eq,beq_eq_false_iff_ne]at *
  unfold dF
  all_goals (repeat (first | rfl | (rw [if_neg (by omega)]) | (rw [if_pos (by omega)])))
 ·refine sk (sq (sq (rg [] rfl ?_)));refine cd rfl (fun h3=>?_) (fun h3=>?_)
  ·refine sg rfl ?_;refine WP.ret ?_;change Fin ..;refine mX hT (by rfl) (bf ?_);simp only [band,Bool.and_eq_true,Bool.and_eq_false_iff,decide_eq_true_eq,decide_eq_false_iff_not,beq_iff_eq,beq_eq_false_iff_ne]at *
   unfold dF
   all_goals (repeat (first | rfl | (rw [if_neg (by omega)]) | (rw [if_pos (by omega)])))
  ·refine sk (sq (sq (rg [] rfl ?_)));refine bk (sq (rg [] rfl ?_));refine cd rfl (fun h6=>?_) (fun h6=>?_)
   ·refine sg rfl ?_;refine WP.ret ?_;change Fin ..;refine mX hT (by rfl) (bf ?_);simp only [band,Bool.and_eq_true,Bool.and_eq_false_iff,decide_eq_true_eq,decide_eq_false_iff_not,beq_iff_eq,beq_eq_false_iff_ne]at *
    unfold dF
    all_goals (repeat (first | rfl | (rw [if_neg (by omega)]) | (rw [if_pos (by omega)])))
   ·refine sg rfl ?_;refine cd rfl (fun h8=>?_) (fun h8=>?_)
    ·refine sg rfl ?_;refine WP.ret ?_;change Fin ..;refine mX hT (by rfl) (bf ?_);simp only [band,Bool.and_eq_true,Bool.and_eq_false_iff,decide_eq_true_eq,decide_eq_false_iff_not,beq_iff_eq,beq_eq_false_iff_ne]at *
     unfold dF
     all_goals (repeat (first | rfl | (rw [if_neg (by omega)]) | (rw [if_pos (by omega)])))
    ·refine sg rfl ?_;refine cd rfl (fun h10=>?_) (fun h10=>?_)
     ·refine sg rfl ?_;refine WP.ret ?_;change Fin ..;refine mX hT (by rfl) (bf ?_);simp only [band,Bool.and_eq_true,Bool.and_eq_false_iff,decide_eq_true_eq,decide_eq_false_iff_not,beq_iff_eq,beq_eq_false_iff_ne]at *
      unfold dF
      all_goals (repeat (first | rfl | (rw [if_neg (by omega)]) | (rw [if_pos (by omega)])))
     ·refine sg rfl ?_;refine cd rfl (fun h12=>?_) (fun h12=>?_)
      ·refine sg rfl ?_;refine WP.ret ?_;change Fin ..;refine mX hT (by rfl) (bf ?_);simp only [band,Bool.and_eq_true,Bool.and_eq_false_iff,decide_eq_true_eq,decide_eq_false_iff_not,beq_iff_eq,beq_eq_false_iff_ne]at *
       unfold dF
       all_goals (repeat (first | rfl | (rw [if_neg (by omega)]) | (rw [if_pos (by omega)])))
      ·refine sg rfl ?_;refine cd rfl (fun h14=>?_) (fun h14=>?_)
       ·refine sg rfl ?_;refine WP.ret ?_;change Fin ..;refine mX hT (by rfl) (bf ?_);simp only [band,Bool.and_eq_true,Bool.and_eq_false_iff,decide_eq_true_eq,decide_eq_false_iff_not,beq_iff_eq,beq_eq_false_iff_ne]at *
        unfold dF
        all_goals (repeat (first | rfl | (rw [if_neg (by omega)]) | (rw [if_pos (by omega)])))
       ·refine sg rfl ?_;refine cd rfl (fun h16=>?_) (fun h16=>?_)
        ·refine sg rfl ?_;refine WP.ret ?_;change Fin ..;refine mX hT (by rfl) (bf ?_);simp only [band,Bool.and_eq_true,Bool.and_eq_false_iff,decide_eq_true_eq,decide_eq_false_iff_not,beq_iff_eq,beq_eq_false_iff_ne]at *
         unfold dF
         all_goals (repeat (first | rfl | (rw [if_neg (by omega)]) | (rw [if_pos (by omega)])))
        ·refine sg rfl ?_;refine cd rfl (fun h18=>?_) (fun h18=>?_)
         ·refine sg rfl ?_;refine WP.ret ?_;change Fin ..;refine mX hT (by rfl) (bf ?_);simp only [band,Bool.and_eq_true,Bool.and_eq_false_iff,decide_eq_true_eq,decide_eq_false_iff_not,beq_iff_eq,beq_eq_false_iff_ne]at *
          unfold dF
          all_goals (repeat (first | rfl | (rw [if_neg (by omega)]) | (rw [if_pos (by omega)])))
         ·refine sg rfl ?_;refine cd rfl (fun h20=>?_) (fun h20=>?_)
          ·refine sg rfl ?_;refine WP.ret ?_;change Fin ..;refine mX hT (by rfl) (bf ?_);simp only [band,Bool.and_eq_true,Bool.and_eq_false_iff,decide_eq_true_eq,decide_eq_false_iff_not,beq_iff_eq,beq_eq_false_iff_ne]at *
           unfold dF
           all_goals (repeat (first | rfl | (rw [if_neg (by omega)]) | (rw [if_pos (by omega)])))
          ·refine sg rfl ?_;refine cd rfl (fun h22=>?_) (fun h22=>?_)
           ·refine sg rfl ?_;refine WP.ret ?_;change Fin ..;refine mX hT (by rfl) (bf ?_);simp only [band,Bool.and_eq_true,Bool.and_eq_false_iff,decide_eq_true_eq,decide_eq_false_iff_not,beq_iff_eq,beq_eq_false_iff_ne]at *
            unfold dF
            all_goals (repeat (first | rfl | (rw [if_neg (by omega)]) | (rw [if_pos (by omega)])))
           ·refine sg rfl ?_;refine cd rfl (fun h24=>?_) (fun h24=>?_)
            ·refine sg rfl ?_;refine WP.ret ?_;change Fin ..;refine mX hT (by rfl) (bf ?_);simp only [band,Bool.and_eq_true,Bool.and_eq_false_iff,decide_eq_true_eq,decide_eq_false_iff_not,beq_iff_eq,beq_eq_false_iff_ne]at *
             unfold dF
             all_goals (repeat (first | rfl | (rw [if_neg (by omega)]) | (rw [if_pos (by omega)])))
            ·refine sg rfl ?_;refine cd rfl (fun h26=>?_) (fun h26=>?_)
             ·refine sg rfl ?_;refine WP.ret ?_;change Fin ..;refine mX hT (by rfl) (bf ?_);simp only [band,Bool.and_eq_true,Bool.and_eq_false_iff,decide_eq_true_eq,decide_eq_false_iff_not,beq_iff_eq,beq_eq_false_iff_ne]at *
              unfold dF
              all_goals (repeat (first | rfl | (rw [if_neg (by omega)]) | (rw [if_pos (by omega)])))
             ·refine sq (sq (rg [] rfl ?_));refine cd rfl (fun h28=>?_) (fun h28=>?_)
              ·refine sk ?_;refine cd rfl (fun h28=>?_) (fun h28=>?_)
               ·refine sg rfl ?_;refine WP.ret ?_;change Fin ..;refine mX hT (by rfl) (bf ?_);simp only [band,Bool.and_eq_true,Bool.and_eq_false_iff,decide_eq_true_eq,decide_eq_false_iff_not,beq_iff_eq,beq_eq_false_iff_ne]at *
                unfold dF
                all_goals (repeat (first | rfl | (rw [if_neg (by omega)]) | (rw [if_pos (by omega)])))
               ·simp_all
              ·refine rg [] rfl ?_;refine cd rfl (fun h29=>?_) (fun h29=>?_)
               ·refine sg rfl ?_;refine WP.ret ?_;change Fin ..;refine mX hT (by rfl) (bf ?_);simp only [band,Bool.and_eq_true,Bool.and_eq_false_iff,decide_eq_true_eq,decide_eq_false_iff_not,beq_iff_eq,beq_eq_false_iff_ne]at *
                unfold dF
                all_goals (repeat (first | rfl | (rw [if_neg (by omega)]) | (rw [if_pos (by omega)])))
               ·refine sg rfl ?_;refine cd rfl (fun h31=>?_) (fun h31=>?_)
                ·refine sg rfl ?_;refine WP.ret ?_;change Fin ..;refine mX hT (by rfl) (bf ?_);simp only [band,Bool.and_eq_true,Bool.and_eq_false_iff,decide_eq_true_eq,decide_eq_false_iff_not,beq_iff_eq,beq_eq_false_iff_ne]at *
                 unfold dF
                 all_goals (repeat (first | rfl | (rw [if_neg (by omega)]) | (rw [if_pos (by omega)])))
                ·refine sg rfl ?_;refine cd rfl (fun h33=>?_) (fun h33=>?_)
                 ·refine sg rfl ?_;refine WP.ret ?_;change Fin ..;refine mX hT (by rfl) (bf ?_);simp only [band,Bool.and_eq_true,Bool.and_eq_false_iff,decide_eq_true_eq,decide_eq_false_iff_not,beq_iff_eq,beq_eq_false_iff_ne]at *
                  unfold dF
                  all_goals (repeat (first | rfl | (rw [if_neg (by omega)]) | (rw [if_pos (by omega)])))
                 ·refine sg rfl ?_;refine cd rfl (fun h35=>?_) (fun h35=>?_)
                  ·refine sg rfl ?_;refine WP.ret ?_;change Fin ..;refine mX hT (by rfl) (bf ?_);simp only [band,Bool.and_eq_true,Bool.and_eq_false_iff,decide_eq_true_eq,decide_eq_false_iff_not,beq_iff_eq,beq_eq_false_iff_ne]at *
                   unfold dF
                   all_goals (repeat (first | rfl | (rw [if_neg (by omega)]) | (rw [if_pos (by omega)])))
                  ·refine sg rfl ?_;refine cd rfl (fun h37=>?_) (fun h37=>?_)
                   ·refine sg rfl ?_;refine WP.ret ?_;change Fin ..;refine mX hT (by rfl) (bf ?_);simp only [band,Bool.and_eq_true,Bool.and_eq_false_iff,decide_eq_true_eq,decide_eq_false_iff_not,beq_iff_eq,beq_eq_false_iff_ne]at *
                    unfold dF
                    all_goals (repeat (first | rfl | (rw [if_neg (by omega)]) | (rw [if_pos (by omega)])))
                   ·refine sg rfl ?_;refine cd rfl (fun h39=>?_) (fun h39=>?_)
                    ·refine sg rfl ?_;refine WP.ret ?_;change Fin ..;refine mX hT (by rfl) (bf ?_);simp only [band,Bool.and_eq_true,Bool.and_eq_false_iff,decide_eq_true_eq,decide_eq_false_iff_not,beq_iff_eq,beq_eq_false_iff_ne]at *
                     unfold dF
                     all_goals (repeat (first | rfl | (rw [if_neg (by omega)]) | (rw [if_pos (by omega)])))
                    ·refine sg rfl ?_;refine cd rfl (fun h41=>?_) (fun h41=>?_)
                     ·refine sg rfl ?_;refine WP.ret ?_;change Fin ..;refine mX hT (by rfl) (bf ?_);simp only [band,Bool.and_eq_true,Bool.and_eq_false_iff,decide_eq_true_eq,decide_eq_false_iff_not,beq_iff_eq,beq_eq_false_iff_ne]at *
                      unfold dF
                      all_goals (repeat (first | rfl | (rw [if_neg (by omega)]) | (rw [if_pos (by omega)])))
                     ·refine sg rfl ?_;refine cd rfl (fun h43=>?_) (fun h43=>?_)
                      ·refine sg rfl ?_;refine WP.ret ?_;change Fin ..;refine mX hT (by rfl) (bf ?_);simp only [band,Bool.and_eq_true,Bool.and_eq_false_iff,decide_eq_true_eq,decide_eq_false_iff_not,beq_iff_eq,beq_eq_false_iff_ne]at *
                       unfold dF
                       all_goals (repeat (first | rfl | (rw [if_neg (by omega)]) | (rw [if_pos (by omega)])))
                      ·refine sg rfl ?_;refine cd rfl (fun h45=>?_) (fun h45=>?_)
                       ·refine sg rfl ?_;refine WP.ret ?_;change Fin ..;refine mX hT (by rfl) (bf ?_);simp only [band,Bool.and_eq_true,Bool.and_eq_false_iff,decide_eq_true_eq,decide_eq_false_iff_not,beq_iff_eq,beq_eq_false_iff_ne]at *
                        unfold dF
                        all_goals (repeat (first | rfl | (rw [if_neg (by omega)]) | (rw [if_pos (by omega)])))
                       ·refine sg rfl ?_;refine cd rfl (fun h47=>?_) (fun h47=>?_)
                        ·refine sg rfl ?_;refine WP.ret ?_;change Fin ..;refine mX hT (by rfl) (bf ?_);simp only [band,Bool.and_eq_true,Bool.and_eq_false_iff,decide_eq_true_eq,decide_eq_false_iff_not,beq_iff_eq,beq_eq_false_iff_ne]at *
                         unfold dF
                         all_goals (repeat (first | rfl | (rw [if_neg (by omega)]) | (rw [if_pos (by omega)])))
                        ·refine sk (sq (rg [] rfl ?_));refine WP.ret ?_;change Fin ..;refine mX hT (by rfl) (bf ?_);simp only [band,Bool.and_eq_true,Bool.and_eq_false_iff,decide_eq_true_eq,decide_eq_false_iff_not,beq_iff_eq,beq_eq_false_iff_ne]at *
                         unfold dF
                         all_goals (repeat (first | rfl | (rw [if_neg (by omega)]) | (rw [if_pos (by omega)])))
def su (op:Int):Bool:=(decide (op≥1)&&decide (op≤36))||(decide (op≥40)&&decide (op≤45))
def EX (op:Int):Bool:=decide (op≥50)&&decide (op≤65)
theorem zN (op:Int):AC Tryz.prog T bn 145 [.int op] [] (.bool (su op)) []:=by
 refine aA hT Tryz.func145 rfl rfl (Nat.le_of_ble_eq_true rfl) ?_;refine sg rfl ?_;refine sg rfl ?_;refine WP.ret ?_;change Fin ..;exact fin1 hT (by rfl) (by rw [band,band,bor];rfl)
theorem IY (op:Int):AC Tryz.prog T bn 151 [.int op] [] (.bool (EX op)) []:=by
 refine aA hT Tryz.func151 rfl rfl (Nat.le_of_ble_eq_true rfl) ?_;refine sg rfl ?_;refine sg rfl ?_;refine WP.ret ?_;change Fin ..;exact fin1 hT (by rfl) (by rw [band];rfl)
def opL (x:jR):List Int:=[x.a,x.b,x.c,x.n]
def opA (x:jR):AV:=o7 54 4 .i64 (opL x)
theorem y8 {Q:List UInt8→Prop} (op:Int) (h0:1≤op∧op≤15→Q [114,114,45,45]) (h1:16≤op∧op≤36→Q [114,114,114,45]) (h2:op=40∨op=44∨op=65→Q [114,45,45,110]) (h3:op=41→Q [114,114,45,45]) (h4:op=42→Q [116,45,45,45]) (h5:op=43→Q [114,116,45,45]) (h6:op=45∨op=64→Q [45,45,45,45]) (h7:op=50→Q [114,118,45,45]) (h8:op=51→Q [118,114,45,45]) (h9:op=52→Q [111,97,114,45]) (h10:op=53→Q [114,97,114,119]) (h11:op=54→Q [97,114,45,45]) (h12:op=55∨op=56→Q [108,45,45,45]) (h13:op=57→Q [114,108,45,45]) (h14:op=58→Q [99,114,45,45]) (h15:op=59→Q [111,99,111,45]) (h16:op=60→Q [99,45,45,45]) (h17:op=61→Q [115,45,45,45]) (h18:op=62→Q [111,102,112,45]) (h19:op=63→Q [114,45,45,45]) (hn:¬ (1≤op∧op≤36)∧¬ (40≤op∧op≤45)∧¬ (50≤op∧op≤65)→Q []):Q (dF op):=by
 unfold dF;by_cases c0:1≤op∧op≤15
 ·rw [if_pos c0];exact h0 c0
 rw [if_neg c0];by_cases c1:16≤op∧op≤36
 ·rw [if_pos c1];exact h1 c1
 rw [if_neg c1];by_cases c2:op=40∨op=44∨op=65
 ·rw [if_pos c2];exact h2 c2
 rw [if_neg c2];by_cases c3:op=41
 ·rw [if_pos c3];exact h3 c3
 rw [if_neg c3];by_cases c4:op=42
 ·rw [if_pos c4];exact h4 c4
 rw [if_neg c4];by_cases c5:op=43
 ·rw [if_pos c5];exact h5 c5
 rw [if_neg c5];by_cases c6:op=45∨op=64
 ·rw [if_pos c6];exact h6 c6
 rw [if_neg c6];by_cases c7:op=50
 ·rw [if_pos c7];exact h7 c7
 rw [if_neg c7];by_cases c8:op=51
 ·rw [if_pos c8];exact h8 c8
 rw [if_neg c8];by_cases c9:op=52
 ·rw [if_pos c9];exact h9 c9
 rw [if_neg c9];by_cases c10:op=53
 ·rw [if_pos c10];exact h10 c10
 rw [if_neg c10];by_cases c11:op=54
 ·rw [if_pos c11];exact h11 c11
 rw [if_neg c11];by_cases c12:op=55∨op=56
 ·rw [if_pos c12];exact h12 c12
 rw [if_neg c12];by_cases c13:op=57
 ·rw [if_pos c13];exact h13 c13
 rw [if_neg c13];by_cases c14:op=58
 ·rw [if_pos c14];exact h14 c14
 rw [if_neg c14];by_cases c15:op=59
 ·rw [if_pos c15];exact h15 c15
 rw [if_neg c15];by_cases c16:op=60
 ·rw [if_pos c16];exact h16 c16
 rw [if_neg c16];by_cases c17:op=61
 ·rw [if_pos c17];exact h17 c17
 rw [if_neg c17];by_cases c18:op=62
 ·rw [if_pos c18];exact h18 c18
 rw [if_neg c18];by_cases c19:op=63
 ·rw [if_pos c19];exact h19 c19
 rw [if_neg c19];exact hn (by omega)
theorem VI (x:jR):(AV.agg 54 4 fun q=>bif Nat.beq q 3 then .int x.n else bif Nat.beq q 2 then .int x.c else bif Nat.beq q 1 then .int x.b else bif Nat.beq q 0 then .int x.a else .int 0)=opA x:=bg (fun q=>by match q with | 0 | 1 | 2 | 3 | q+4=>rfl)
theorem GL (op:Int):(dF op=[])↔su op=false∧EX op=false:=by
 have hb:(su op=false∧EX op=false)↔¬ (1≤op∧op≤36)∧¬ (40≤op∧op≤45)∧¬ (50≤op∧op≤65):=by
  unfold su EX;simp only [Bool.or_eq_false_iff,Bool.and_eq_false_iff,decide_eq_false_iff_not];omega
 rw [hb];refine y8 (Q:=fun l=>l=[]↔_) op ?_ ?_ ?_ ?_ ?_ ?_ ?_ ?_ ?_ ?_ ?_ ?_ ?_ ?_ ?_ ?_ ?_ ?_ ?_ ?_ ?_
 all_goals (intro h;constructor <;> intro k)
 all_goals (first | rfl | exact h | (exfalso;omega) | (exact absurd k (List.cons_ne_nil _ _)))
theorem UC {op:Int} (h:dF op≠[]):(dF op).length=4:=by
 revert h;refine y8 (Q:=fun l=>l≠[]→l.length=4) op ?_ ?_ ?_ ?_ ?_ ?_ ?_ ?_ ?_ ?_ ?_ ?_ ?_ ?_ ?_ ?_ ?_ ?_ ?_ ?_ ?_
 all_goals (intro _ h;first | rfl | exact absurd rfl h)
def yL (op:Int) (k:Nat):Int:=byteAt (oq op) k
theorem VP (op:Int) (k:Nat):yL op k=(((dF op)[k]?.getD 0).toNat:Nat):=by
 unfold yL byteAt oq;congr 2;by_cases h:k<(dF op).length
 ·have h1:k<(⟨(dF op).toArray⟩:ByteArray).size:=by simpa [ByteArray.size]using h
  rw [getElem?_pos (⟨(dF op).toArray⟩:ByteArray) k h1,getElem?_pos (dF op) k h];rfl
 ·have h1:¬ k<(⟨(dF op).toArray⟩:ByteArray).size:=by simpa [ByteArray.size]using h
  rw [getElem?_neg (⟨(dF op).toArray⟩:ByteArray) k h1,getElem?_neg (dF op) k h]
theorem XC {op:Int} {k:Nat} (h:yL op k=112):k=2∧yL op 1=102:=by
 rw [VP]at h ⊢;revert h;refine y8 (Q:=fun l=>((l[k]?.getD 0).toNat:Int)=112→k=2∧((l[1]?.getD 0).toNat:Int)=102) op ?_ ?_ ?_ ?_ ?_ ?_ ?_ ?_ ?_ ?_ ?_ ?_ ?_ ?_ ?_ ?_ ?_ ?_ ?_ ?_ ?_
 all_goals (intro _ h;match k,h with
  | 0,h | 1,h | 2,h | 3,h=>first | exact ⟨rfl,rfl⟩ | (exact absurd h (by decide))
  | k+4,h=>exact absurd h (by simp))
def Ic (p:Nat→Bool):Nat→Bool
 | 0=>false
 | i+1=>Ic p i||p i
theorem Bq {p:Nat→Bool} {i:Nat} (h:p i=true):∀ {n:Nat},i<n→Ic p n=true
 | n+1,hn=>by
  rw [Ic,Bool.or_eq_true];by_cases e:i=n
  ·subst e;exact .inr h
  ·exact .inl (Bq h (by omega))
theorem Rl (b:ByteArray):∀ (n i:Nat) (r:List UInt8),b.size - i=n→(ByteArray.toList.loop b i r).length=r.length+(b.size - i)
 | 0,i,r,h=>by
  unfold ByteArray.toList.loop;rw [if_neg (by omega),List.length_reverse];omega
 | n+1,i,r,h=>by
  unfold ByteArray.toList.loop;rw [if_pos (by omega),Rl b n (i+1) _ (by omega),List.length_cons];omega
theorem Wi (b:ByteArray):b.toList.length=b.size:=by
 unfold ByteArray.toList;have:=Rl b _ 0 [] rfl
 simpa using this
theorem UD {op:Int} (h:((oq op).toList==(⟨#[]⟩:ByteArray).toList)=true):dF op=[]:=by
 have h1:(oq op).toList=(⟨#[]⟩:ByteArray).toList:=by simpa using h
 have h2:=congrArg List.length h1;rw [Wi,Wi]at h2;have h3:(dF op).length=0:=by simpa [oq,ByteArray.size]using h2
 exact List.eq_nil_of_length_eq_zero h3
theorem UA {op:Int} (h:((oq op).toList==(⟨#[]⟩:ByteArray).toList)=false):dF op≠[]:=by
 intro e;have:oq op=⟨#[]⟩:=by rw [oq,e]
 rw [this]at h;simp at h
def unB (x:jR) (k:Nat):Bool:=yL x.op k==45&&(opL x).getD k 0 != 0
def qU (p:ay) (f:iL) (x:jR):Nat→Int
 | 0=>0
 | k+1=>if qU p f x k≠0 then qU p f x k else aW p f (yL x.op k) ((opL x).getD k 0) x
def iH (p:ay) (f:iL) (x:jR):Int :=
 if dF x.op=[]then 33 else if Ic (unB x) 4 then 34 else qU p f x 4
theorem GK {op:Int} (h:dF op≠[]):(oq op).size=4:=by
 have:=UC h;simpa [oq,ByteArray.size]using this
theorem Ba {p:ay} {f:iL} {x:jR} {k:Nat} (h:qU p f x k=0) (hb:aW p f (yL x.op k) ((opL x).getD k 0) x≠0):∀ {n:Nat},k<n→qU p f x n=aW p f (yL x.op k) ((opL x).getD k 0) x
 | n+1,hn=>by
  by_cases e:k=n
  ·subst e;rw [qU,h,if_neg (by simp)]
  ·have ih:=Ba h hb (n:=n) (by omega);rw [qU,ih,if_pos hb]
theorem VG {p:ay} {f:iL} {x:jR} {k:Nat} (h:qU p f x k=0) (hc:yL x.op k=112):0≤x.b∧x.b<p.funcs.length:=by
 obtain ⟨rfl,h1⟩:=XC hc;have h2:aW p f (yL x.op 1) ((opL x).getD 1 0) x=0:=by
  have e:qU p f x 2=if qU p f x 1≠0 then qU p f x 1 else aW p f (yL x.op 1) ((opL x).getD 1 0) x:=rfl
  rw [e]at h;split at h
  ·rename_i hne;exact absurd h hne
  ·exact h
 rw [h1]at h2;exact oO h2
theorem Jg (x:jR):AC Tryz.prog T bn 216 [aP x] [] (opA x) []:=by
 refine aA hT Tryz.func216 rfl rfl (Nat.le_of_ble_eq_true rfl) ?_;refine sg rfl ?_;refine sg rfl ?_;refine WP.ret ?_;change Fin ..;refine Fin.ent (Ent.mk (P:=Tryz.prog) hT [] (ts:=[(2,.ptr (.s 2 0) 1 0 [])]) (ms:=[(.s 2 0,.cells ⟨54,1,fun _=>opA x,0⟩)]) trivial ⟨⟨rfl,_,rfl,ah rfl⟩,tt⟩ ⟨⟨fun _ _=>Ah (fun _ _=>rfl),.inl ⟨_,rfl,_,_,rfl,Nat.le_refl _,Nat.zero_le _,Nat.zero_le _,fun q hq=>by (obtain rfl:q=0:=(by simp at hq;exact hq));exact ah (VI x)⟩⟩,tt⟩ rfl) ?_;refine aJ hT [(.s 2 0,1)] (ts:=[(2,.rp 54 (opA x))]) (l:=[opA x]) ⟨⟨_,rfl,Nat.le_refl _⟩,tt⟩ ⟨⟨rfl,_,rfl,aZ rfl rfl (by simp [dP,aI]) rfl rfl CX⟩,tt⟩ trivial rfl rfl rfl
theorem Ul (p:ay) (f:iL) (x:jR):AC Tryz.prog T bn 157 [.rp 257 (Bc p f),aP x] [] (.int (iH p f x)) []:=by
 refine aA hT Tryz.func157 rfl rfl (Nat.le_of_ble_eq_true rfl) ?_;refine sg rfl ?_;refine sq (rgs [CG.pure (.v (.string (oq x.op)))] rfl ?_ ?_)
 ·have hf:=XT x.op;simp [ak,under,CG.pure];exact hf
 refine sq (sq (rg [] rfl ?_));refine cd rfl (fun h2=>?_) (fun h2=>?_)
 ·have hno:dF x.op=[]:=UD h2;refine sg rfl ?_;exact WP.ret (cZ hT (by rfl) (by rw [iH,if_pos hno]))
 ·have hne:dF x.op≠[]:=UA h2;have hsz:=GK hne
  refine sk (sq (rgs [CG.pure (opA x)] rfl ?_ ?_))
  ·have ho:=Jg x;simp [ak,under,CG.pure];exact ho
  refine sq (sq (rg [] rfl ?_));refine bk ?_;refine WP.loop (α:=Nat) (fun k=>aK [(0,.rp 257 (Bc p f)),(3,.rp 120 (aP x)),(5,.v (.string (oq x.op))),(6,.rp 54 (opA x)),(19,opA x),(20,.int k)] []) (fun k=>k≤4∧Ic (unB x) k=false) (fun k=>4 - k) ?_ ?_
  ·refine ⟨0,?_,?_⟩
   ·exact ⟨Nat.zero_le _,rfl⟩
   ·refine em [(.s 3 0,1),(.s 6 0,1)] ⟨⟨_,rfl,Nat.le_refl _⟩,⟨_,rfl,Nat.le_refl _⟩,tt⟩ ⟨cq,⟨rfl,_,rfl,aZ rfl rfl (by decide) rfl rfl rfl⟩,cq,⟨rfl,_,rfl,aZ rfl rfl (by decide) rfl rfl rfl⟩,cq,cq,tt⟩ trivial
  ·rintro k ⟨hk,hn⟩;refine sg rfl ?_;refine sq ?_;refine cd rfl (fun h6=>?_) (fun h6=>?_)
   ·have hk4:k<4:=by simp at h6;omega
    refine sk (sq (bk (sq (rgs [] rfl ?_ ?_))))
    ·simp [ak,under];omega
    refine sq (rgs [] rfl ?_ ?_)
    ·simp [ak,under,hsz];omega
    refine cd rfl (fun h8=>?_) (fun h8=>?_)
    ·have hb:unB x k=true:=by
      have e:(bif yL x.op k==45 then (opL x).getD k 0 != 0 else false)=true:=h8
      rwa [band]at e
     refine sg rfl ?_;exact WP.ret (cZ hT (by rfl) (by rw [iH,if_neg hne,Bq hb hk4,if_pos rfl]))
    ·have hb:unB x k=false:=by
      have e:(bif yL x.op k==45 then (opL x).getD k 0 != 0 else false)=false:=h8
      rwa [band]at e
     refine sk (rg [] rfl ?_);refine ⟨k+1,?_,?_,?_⟩
     ·exact ⟨hk4,by rw [Ic,hn,hb];rfl⟩
     ·refine em [] trivial ⟨cq,cq,cq,cq,cq,cq,tt⟩ trivial
     ·(try simp only []);first | omega | grind
   ·have hk4:k=4:=by simp at h6;omega
    subst hk4;refine xt (sq (sq (rg [] rfl ?_)));refine bk ?_;refine WP.loop (α:=Nat) (fun k=>aK [(0,.rp 257 (Bc p f)),(3,.rp 120 (aP x)),(5,.v (.string (oq x.op))),(33,opA x),(34,.int k)] []) (fun k=>k≤4∧qU p f x k=0) (fun k=>4 - k) ?_ ?_
    ·refine ⟨0,?_,?_⟩
     ·exact ⟨Nat.zero_le _,rfl⟩
     ·refine em [] trivial ⟨cq,cq,cq,cq,cq,tt⟩ trivial
    ·rintro k ⟨hk,he⟩;refine sg rfl ?_;refine sq ?_;refine cd rfl (fun h12=>?_) (fun h12=>?_)
     ·have hk4:k<4:=by simp at h12;omega
      refine sk (sq (bk (sq (rgs [] rfl ?_ ?_))))
      ·simp [ak,under];omega
      refine sq (drs [CG.pure (.int (aW p f (yL x.op k) ((opL x).getD k 0) x))] rfl ?_ ?_)
      ·have ho:=Nv p f (yL x.op k) ((opL x).getD k 0) x (fun hc=>VG he hc);have hk2:k<(oq x.op).size:=by omega
       refine ⟨⟨by omega,by omega⟩,?_⟩;exact ho
      refine sg rfl ?_;refine cd rfl (fun h15=>?_) (fun h15=>?_)
      ·have hb:aW p f (yL x.op k) ((opL x).getD k 0) x≠0:=by simpa using h15
       refine sg rfl ?_;refine WP.ret ?_;change Fin ..;refine cZ hT (by rfl) ?_;rw [iH,if_neg hne,hn,if_neg (by simp),Ba he hb hk4]
      ·have hb:aW p f (yL x.op k) ((opL x).getD k 0) x=0:=by simpa using h15
       refine sk (rg [] rfl ?_);refine ⟨k+1,?_,?_,?_⟩
       ·exact ⟨hk4,by rw [qU,he,if_neg (by simp)];exact hb⟩
       ·refine em [] trivial ⟨cq,cq,cq,cq,cq,tt⟩ trivial
       ·(try simp only []);first | omega | grind
     ·have hk4:k=4:=by simp at h12;omega
      subst hk4;refine xt (sq (rg [] rfl ?_));refine WP.ret ?_;change Fin ..;exact cZ hT (by rfl) (by rw [iH,if_neg hne,hn];simp [he])
theorem Pg (p:ay) (f:iL) (x:jR):AC Tryz.prog T bn 109 [aj p,dI f,aP x] [] (.int (iH p f x)) []:=by
 refine aA hT Tryz.func109 rfl rfl (Nat.le_of_ble_eq_true rfl) ?_;refine sg rfl ?_;refine sq (sq (rgs [CG.pure (.bool (su x.op)),CG.pure (.bool (EX x.op))] rfl ?_ ?_))
 ·have h1:=zN x.op;have h2:=IY x.op
  simp [ak,under,CG.pure];exact ⟨h1,fun _=>h2⟩
 refine cd rfl (fun h1=>?_) (fun h1=>?_)
 ·have hno:dF x.op=[]:=by
   have e:(bif !su x.op then !EX x.op else false)=true:=h1;rw [band,Bool.and_eq_true,Bool.not_eq_true',Bool.not_eq_true']at e;exact (GL x.op).2 e
  refine sg rfl ?_;exact WP.ret (cZ hT (by rfl) (by rw [iH,if_pos hno]))
 ·have hne:dF x.op≠[]:=by
   have e:(bif !su x.op then !EX x.op else false)=false:=h1;rw [band]at e;intro hz;have:=(GL x.op).1 hz
   rw [this.1,this.2]at e;cases e
  have hsz:=GK hne;refine sk (sq (rgs [CG.pure (.v (.string (oq x.op)))] rfl ?_ ?_))
  ·have hf:=TF x.op;simp [ak,under,CG.pure];exact hf
  refine sg rfl ?_;refine sq (sq (rg [] rfl ?_));refine bk ?_;refine WP.loop (α:=Nat) (fun k=>aK [(3,.rp 26 (aj p)),(4,.rp 100 (dI f)),(5,.rp 120 (aP x)),(7,.v (.string (oq x.op))),(8,.rp 54 (opA x)),(9,.int k)] []) (fun k=>k≤4∧Ic (unB x) k=false) (fun k=>4 - k) ?_ ?_
  ·refine ⟨0,?_,?_⟩
   ·exact ⟨Nat.zero_le _,rfl⟩
   ·refine em [(.s 3 0,1),(.s 4 0,1),(.s 5 0,1),(.s 8 0,1)] ⟨⟨_,rfl,Nat.le_refl _⟩,⟨_,rfl,Nat.le_refl _⟩,⟨_,rfl,Nat.le_refl _⟩,⟨_,rfl,Nat.le_refl _⟩,tt⟩ ⟨⟨rfl,_,rfl,aZ rfl rfl (by decide) rfl rfl rfl⟩,⟨rfl,_,rfl,aZ rfl rfl (by decide) rfl rfl rfl⟩,⟨rfl,_,rfl,aZ rfl rfl (by decide) rfl rfl rfl⟩,cq,⟨rfl,_,rfl,aZ rfl rfl (by decide) rfl (VI x) CX⟩,cq,tt⟩ trivial
  ·rintro k ⟨hk,hn⟩;refine sq (sq (rg [] rfl ?_));refine cd rfl (fun h6=>?_) (fun h6=>?_)
   ·have hk4:k<4:=by simp at h6;omega
    refine sk (sq (bk (sq (rgs [] rfl ?_ ?_))))
    ·simp [ak,under,hsz];omega
    refine cd rfl (fun h8=>?_) (fun h8=>?_)
    ·have hb:unB x k=true:=by
      have e:(bif yL x.op k==45 then (opL x).getD k 0 != 0 else false)=true:=h8
      rwa [band]at e
     refine sg rfl ?_;exact WP.ret (cZ hT (by rfl) (by rw [iH,if_neg hne,Bq hb hk4,if_pos rfl]))
    ·have hb:unB x k=false:=by
      have e:(bif yL x.op k==45 then (opL x).getD k 0 != 0 else false)=false:=h8
      rwa [band]at e
     refine sk (rg [] rfl ?_);refine ⟨k+1,?_,?_,?_⟩
     ·exact ⟨hk4,by rw [Ic,hn,hb];rfl⟩
     ·refine em [] trivial ⟨cq,cq,cq,cq,cq,cq,tt⟩ trivial
     ·(try simp only []);first | omega | grind
   ·have hk4:k=4:=by simp at h6;omega
    subst hk4;refine xt (sq (sq (rg [] rfl ?_)));refine bk ?_;refine WP.loop (α:=Nat) (fun k=>aK [(3,.rp 26 (aj p)),(4,.rp 100 (dI f)),(5,.rp 120 (aP x)),(7,.v (.string (oq x.op))),(8,.rp 54 (opA x)),(10,.int k)] []) (fun k=>k≤4∧qU p f x k=0) (fun k=>4 - k) ?_ ?_
    ·refine ⟨0,?_,?_⟩
     ·exact ⟨Nat.zero_le _,rfl⟩
     ·refine em [] trivial ⟨cq,cq,cq,cq,cq,cq,tt⟩ trivial
    ·rintro k ⟨hk,he⟩;refine sq (sq (rg [] rfl ?_));refine cd rfl (fun h11=>?_) (fun h11=>?_)
     ·have hk4:k<4:=by simp at h11;omega
      refine sk (sq (bk (sq (drs [CG.pure (.int (aW p f (yL x.op k) ((opL x).getD k 0) x))] rfl ?_ ?_))))
      ·have ho:=I8 p f (yL x.op k) ((opL x).getD k 0) x (fun hc=>VG he hc);have hk2:k<(oq x.op).size:=by omega
       refine ⟨⟨⟨by omega,by omega⟩,⟨by omega,by omega⟩⟩,?_⟩;exact ho
      refine sg rfl ?_;refine cd rfl (fun h14=>?_) (fun h14=>?_)
      ·have hb:aW p f (yL x.op k) ((opL x).getD k 0) x≠0:=by simpa using h14
       refine sg rfl ?_;refine WP.ret ?_;change Fin ..;refine cZ hT (by rfl) ?_;rw [iH,if_neg hne,hn,if_neg (by simp),Ba he hb hk4]
      ·have hb:aW p f (yL x.op k) ((opL x).getD k 0) x=0:=by simpa using h14
       refine sk (rg [] rfl ?_);refine ⟨k+1,?_,?_,?_⟩
       ·exact ⟨hk4,by rw [qU,he,if_neg (by simp)];exact hb⟩
       ·refine em [] trivial ⟨cq,cq,cq,cq,cq,cq,tt⟩ trivial
       ·(try simp only []);first | omega | grind
     ·have hk4:k=4:=by simp at h11;omega
      subst hk4;refine xt (sq (rg [] rfl ?_));refine WP.ret ?_;change Fin ..;exact cZ hT (by rfl) (by rw [iH,if_neg hne,hn];simp [he])
def Jw {α:Type} (g:α→Int):List α→Int
 | []=>0
 | x::r=>if g x≠0 then g x else Jw g r
theorem vG {α:Type} {g:α→Int} {d:α}:∀ {l:List α} {i:Nat},i<l.length→(∀ j,j<i→g (l.getD j d)=0)→g (l.getD i d)≠0→Jw g l=g (l.getD i d)
 | x::r,0,_,_,hb=>by
  have hb':g x≠0:=hb;rw [Jw,if_pos hb'];rfl
 | x::r,i+1,hi,hn,hb=>by
  have h0:=hn 0 (by omega);rw [Jw,if_neg (by simpa using h0)];exact vG (l:=r) (i:=i) (by simpa using hi) (fun j hj=>hn (j+1) (by omega)) hb
theorem jF {α:Type} {g:α→Int} {d:α}:∀ {l:List α},(∀ j,j<l.length→g (l.getD j d)=0)→Jw g l=0
 | [],_=>rfl
 | x::r,hn=>by
  have h0:=hn 0 (by simp);rw [Jw,if_neg (by simpa using h0)];exact jF (l:=r) (fun j hj=>hn (j+1) (by simpa using hj))
def szB (p:ay):Bool:=decide ((p.vars.length:Int)>8)||decide (p.locks<0)||decide (p.locks>4)||decide ((p.chans.length:Int)>4)||decide ((p.funcs.length:Int)<1)||decide ((p.funcs.length:Int)>8)
def Ia (n:Int):Int:=if decide (n<0)||decide (n>4)then 31 else 0
def jS (p:ay):Int:=if szB p then 30 else Jw Ia p.chans
theorem fZ {P:Nat→Prop} {i:Nat} (h:∀ j,j<i→P j) (hi:P i):∀ j,j<i+1→P j:=fun j hj=>by
 rcases Nat.lt_or_ge j i with h1 | h1
 ·exact h j h1
 ·obtain rfl:j=i:=by omega
  exact hi
theorem RU (p:ay):AC Tryz.prog T bn 154 [aj p] [] (.int (jS p)) []:=by
 refine aA hT Tryz.func154 rfl rfl (Nat.le_of_ble_eq_true rfl) ?_;refine sg rfl ?_;refine sq (sq (rg [] rfl ?_));refine cd rfl (fun h1=>?_) (fun h1=>?_)
 ·have hb:szB p=true:=by
   simp only [bor]at h1;exact h1
  refine sg rfl ?_;exact WP.ret (cZ hT (by rfl) (by rw [jS,if_pos hb]))
 ·have hb:szB p=false:=by
   simp only [bor]at h1;exact h1
  have hcl:p.chans.length≤4:=by
   simp [szB]at hb;omega
  refine sk (sq (sq (rg [] rfl ?_)));refine bk ?_;refine WP.loop (α:=Nat) (fun i=>aK [(38,ints false p.chans),(39,.int p.chans.length),(40,.int i)] []) (fun i=>i≤p.chans.length ∧ ∀ j,j<i→Ia (p.chans.getD j 0)=0) (fun i=>p.chans.length - i) ?_ ?_
  ·refine ⟨0,?_,?_⟩
   ·exact ⟨Nat.zero_le _,fun j hj=>by omega⟩
   ·refine em [] trivial ⟨cq,cq,cq,tt⟩ trivial
  ·rintro i ⟨hi,hn⟩;refine sg rfl ?_;refine sq ?_;refine cd rfl (fun h4=>?_) (fun h4=>?_)
   ·have hil:i<p.chans.length:=by simpa using h4
    refine sk (sq (bk (sq (rgs [] rfl ?_ ?_))))
    ·simp [ak,under];omega
    refine sg rfl ?_;refine cd rfl (fun h6=>?_) (fun h6=>?_)
    ·have hx:Ia (p.chans.getD i 0)=31:=by
      simp only [bor]at h6;exact if_pos h6
     refine sg rfl ?_;refine WP.ret ?_;change Fin ..;exact cZ hT (by rfl) (by rw [jS,hb,if_neg (by simp),vG hil hn (by rw [hx];decide),hx])
    ·have hx:Ia (p.chans.getD i 0)=0:=by
      simp only [bor]at h6;exact if_neg (by rw [show (decide (p.chans.getD i 0<0)||decide (p.chans.getD i 0>4))=false from h6];decide)
     refine sk (rg [] rfl ?_);refine ⟨i+1,?_,?_,?_⟩
     ·exact ⟨hil,fZ hn hx⟩
     ·refine em [] trivial ⟨cq,cq,cq,tt⟩ trivial
     ·(try simp only []);first | omega | grind
   ·have hil:i=p.chans.length:=by simp at h4;omega
    subst hil;refine xt (sq (rg [] rfl ?_));exact WP.ret (cZ hT (by rfl) (by rw [jS,hb,if_neg (by simp),jF hn]))
def szF (f:iL) (main:Bool):Bool:=(decide (f.regs≥0)&&decide (f.regs≤8)&&decide (f.params≥0)&&decide (f.params≤f.regs) && !(main&&decide (f.params>0)))&&decide ((f.code.length:Int)≥1)&&decide ((f.code.length:Int)≤64)&&decide ((f.sels.length:Int)≤4)
theorem oK {f:iL} {main:Bool}:szF f main=true↔0≤f.regs∧f.regs≤8∧0≤f.params∧f.params≤f.regs∧¬ (main=true∧f.params>0)∧(f.code.length:Int)≥1∧(f.code.length:Int)≤64∧(f.sels.length:Int)≤4:=by
 simp only [szF,Bool.and_eq_true,decide_eq_true_eq,Bool.not_eq_true',Bool.and_eq_false_iff,decide_eq_false_iff_not];cases main <;> simp <;> omega
theorem not_true {b:Bool} (h:¬ b=true):b=false:=by simpa using h
def N9 (s:yP):Bool:=decide ((s.cases.length:Int)≥1)&&decide ((s.cases.length:Int)≤4)
def uY (f:iL):Nat→Bool
 | 0=>true
 | i+1=>uY f i&&N9 (f.sels.getD i wL)
theorem OL {f:iL} {i:Nat} {n:Nat} (h:i<n) (hx:N9 (f.sels.getD i wL)=false):uY f n=false:=by
 induction n with
 | zero=>omega
 | succ n ih =>
  rw [uY];by_cases e:i=n
  ·subst e;rw [hx,Bool.and_false]
  ·rw [ih (by omega),Bool.false_and]
def eH (f:iL) (main:Bool):Bool:=szF f main&&uY f f.sels.length
theorem SI (f:iL) (main:Bool):AC Tryz.prog T bn 155 [dI f,.bool main] [] (.int (if eH f main then 0 else 32)) []:=by
 refine aA hT Tryz.func155 rfl rfl (Nat.le_of_ble_eq_true rfl) ?_;refine sg rfl ?_;refine sg rfl ?_;refine sg rfl ?_;refine sq (sq (rg [] rfl ?_));refine WP.rowlen 57 rfl (fun hl57=>?_);refine bk ?_;refine WP.loop (α:=Nat×Bool) (fun (⟨i,ok⟩:Nat×Bool)=>aK [(5,.bool ok),(57,rowP 103 fD wL f.sels),(58,.int f.sels.length),(59,.int i)] []) (fun (⟨i,ok⟩:Nat×Bool)=>i≤f.sels.length∧ok=(szF f main&&uY f i)) (fun (⟨i,ok⟩:Nat×Bool)=>f.sels.length - i) ?_ ?_
 ·refine ⟨(0,szF f main),?_,?_⟩
  ·exact ⟨Nat.zero_le _,by simp [uY]⟩
  ·refine em [] trivial ⟨⟨rfl,_,rfl,ah (by simp only [band];rfl)⟩,cq,cq,cq,tt⟩ trivial
 ·rintro ⟨i,ok⟩ ⟨hi,hok⟩;refine sg rfl ?_;refine sq ?_;refine cd rfl (fun h4=>?_) (fun h4=>?_)
  ·have hil:i<f.sels.length:=by simpa using h4
   refine sk (sq (bk (sq (rgs [] rfl ?_ ?_))))
   ·simp [ak,under];omega
   refine rg [] rfl ?_;refine rg [] rfl ?_;refine ⟨(i+1,szF f main&&uY f (i+1)),?_,?_,?_⟩
   ·exact ⟨hil,rfl⟩
   ·refine em [] trivial ⟨⟨rfl,_,rfl,ah (by simp only [band];rw [hok,uY,N9];simp only [Bool.and_assoc];rfl)⟩,cq,cq,cq,tt⟩ trivial
   ·(try simp only []);first | omega | grind
  ·have hil:i=f.sels.length:=by simp at h4;omega
   subst hil;refine xt (sq (sq (rg [] rfl ?_)));refine cd rfl (fun h8=>?_) (fun h8=>?_)
   ·have ho:eH f main=false:=by rw [eH,← hok];simpa using h8
    refine sg rfl ?_;refine WP.ret ?_;change Fin ..;exact cZ hT (by rfl) (by rw [ho];rfl)
   ·have ho:eH f main=true:=by rw [eH,← hok];simpa using h8
    refine sk (sq (rg [] rfl ?_));refine WP.ret ?_;change Fin ..;exact cZ hT (by rfl) (by rw [ho];rfl)
theorem Qx (n:Nat) (f:iL):AC Tryz.prog T bn 107 [.int n,dI f] [] (.bool (eH f (n==0))) []:=by
 refine aA hT Tryz.func107 rfl rfl (Nat.le_of_ble_eq_true rfl) ?_;refine sg rfl ?_;refine sq (sq (rg [] rfl ?_));refine cd rfl (fun h1=>?_) (fun h1=>?_)
 ·have hb:szF f (n==0)=false:=by
   refine not_true fun hz=>?_;rw [oK]at hz;simp only [bor,band,Bool.or_eq_true,Bool.and_eq_true,decide_eq_true_eq,beq_iff_eq,bne_iff_ne]at h1 hz;omega
  refine sg rfl ?_;refine WP.ret ?_;change Fin ..;exact fin1 hT (by rfl) (by rw [eH,hb];rfl)
 ·refine sk (sq (sq (rg [] rfl ?_)));refine cd rfl (fun h3=>?_) (fun h3=>?_)
  ·have hb:szF f (n==0)=false:=by
    refine not_true fun hz=>?_;rw [oK]at hz;simp only [bor,band,Bool.or_eq_true,Bool.and_eq_true,decide_eq_true_eq,beq_iff_eq,bne_iff_ne]at h3 hz;omega
   refine sg rfl ?_;refine WP.ret ?_;change Fin ..;exact fin1 hT (by rfl) (by rw [eH,hb];rfl)
  ·have hb:szF f (n==0)=true:=by
    rw [oK];simp only [bor,band,Bool.or_eq_false_iff,Bool.and_eq_false_iff,decide_eq_false_iff_not,beq_iff_eq,beq_eq_false_iff_ne,bne_eq_false_iff_eq]at h1 h3 ⊢;omega
   have hsl:f.sels.length≤4:=by
    simp [szF]at hb;omega
   refine sk (sq (sq (rg [] rfl ?_)));refine bk ?_;refine WP.loop (α:=Nat) (fun i=>aK [(53,rowP 103 fD wL f.sels),(54,.int f.sels.length),(55,.int i)] []) (fun i=>i≤f.sels.length∧uY f i=true) (fun i=>f.sels.length - i) ?_ ?_
   ·refine ⟨0,?_,?_⟩
    ·exact ⟨Nat.zero_le _,rfl⟩
    ·refine em [] trivial ⟨cq,cq,cq,tt⟩ trivial
   ·rintro i ⟨hi,hok⟩;refine sg rfl ?_;refine sq ?_;refine cd rfl (fun h6=>?_) (fun h6=>?_)
    ·have hil:i<f.sels.length:=by simpa using h6
     refine sk (sq (bk (sq (rgs [] rfl ?_ ?_))))
     ·simp [ak,under];omega
     refine sg rfl ?_;refine cd rfl (fun h8=>?_) (fun h8=>?_)
     ·have hx:N9 (f.sels.getD i wL)=false:=by
       simp only [bor,Bool.or_eq_true,decide_eq_true_eq,Int.toNat_natCast]at h8;simp only [N9,Bool.and_eq_false_iff,decide_eq_false_iff_not];omega
      refine sg rfl ?_;exact WP.ret (fin1 hT (by rfl) (by rw [eH,OL hil hx,Bool.and_false]))
     ·have hx:N9 (f.sels.getD i wL)=true:=by
       simp only [bor,Bool.or_eq_false_iff,decide_eq_false_iff_not,Int.toNat_natCast]at h8;simp only [N9,Bool.and_eq_true,decide_eq_true_eq];omega
      refine sk (rg [] rfl ?_);refine ⟨i+1,?_,?_,?_⟩
      ·exact ⟨hil,by rw [uY,hok,hx];rfl⟩
      ·refine em [] trivial ⟨cq,cq,cq,tt⟩ trivial
      ·(try simp only []);first | omega | grind
    ·have hil:i=f.sels.length:=by simp at h6;omega
     subst hil;refine xt (sq (rg [] rfl ?_));refine WP.ret ?_;change Fin ..;exact fin1 hT (by rfl) (by rw [eH,hb,hok];rfl)
theorem yS {f:iL}:∀ {n:Nat},uY f n=true → ∀ i,i<n→N9 (f.sels.getD i wL)=true
 | n+1,h,i,hi=>by
  rw [uY,Bool.and_eq_true]at h;by_cases e:i=n
  ·subst e;exact h.2
  ·exact yS h.1 i (by omega)
def oW (p:ay) (f:iL) (c:Bz):Int :=
 if fK c.chan p.chans.length≠0 then 36 else if (c.send||c.reg != -1)=true∧gK f c.reg≠0 then 35 else
 if (c.send&&p.chans.getD c.chan.toNat 0==0)=true then 37 else gy f c.to
def Bd (f:iL) (s:yP):Int:=if s.els ≠ -1 then gy f s.els else 0
def MZ (p:ay) (f:iL) (s:yP):Int:=if Jw (oW p f) s.cases≠0 then Jw (oW p f) s.cases else Bd f s
def qY (p:ay) (f:iL):Int:=Jw (MZ p f) f.sels
abbrev aU (f:iL) (i:Nat):yP:=f.sels.getD i wL
abbrev aC (s:yP) (k:Nat):Bz:=s.cases.getD k EK
theorem jT {p:ay} {f:iL} {s:yP} {k:Nat} {e:Int} (hk:k<s.cases.length) (hn:∀ j,j<k→oW p f (aC s j)=0) (he:oW p f (aC s k)=e) (h0:e≠0):MZ p f s=e:=by
 subst he;have:=vG hk hn h0
 rw [MZ,this,if_pos h0]
theorem iZ {p:ay} {f:iL} {i:Nat} {e:Int} (hi:i<f.sels.length) (hn:∀ j,j<i→MZ p f (aU f j)=0) (he:MZ p f (aU f i)=e) (h0:e≠0):qY p f=e:=by
 subst he;rw [qY,vG hi hn h0]
theorem Uc {n m:Int} (h:fK n m≠0):fK n m=36:=by
 unfold fK at h ⊢;split
 ·rename_i hw;rw [if_pos hw]at h;exact absurd rfl h
 ·rfl
theorem TJ {f:iL} {n:Int} (h:gK f n≠0):gK f n=35:=by
 unfold gK at h ⊢;split
 ·rename_i hw;rw [if_pos hw]at h;exact absurd rfl h
 ·rfl
theorem MX (p:ay) (f:iL) (m:Bool) (hf:eH f m=true):AC Tryz.prog T bn 156 [.rp 257 (Bc p f)] [] (.int (qY p f)) []:=by
 refine aA hT Tryz.func156 rfl rfl (Nat.le_of_ble_eq_true rfl) ?_;have hsz:szF f m=true:=by rw [eH,Bool.and_eq_true]at hf;exact hf.1
 have hst:uY f f.sels.length=true:=by rw [eH,Bool.and_eq_true]at hf;exact hf.2
 rw [oK]at hsz;refine sg rfl ?_;refine sq (sq (rg [] rfl ?_));refine bk ?_;refine WP.loop (α:=Nat) (fun i=>aK [(0,.rp 257 (Bc p f)),(15,rowP 103 fD wL f.sels),(16,.int f.sels.length),(17,.int i)] []) (fun i=>i≤f.sels.length ∧ ∀ j,j<i→MZ p f (aU f j)=0) (fun i=>f.sels.length - i) ?_ ?_
 ·refine ⟨0,?_,?_⟩
  ·exact ⟨Nat.zero_le _,fun j hj=>by omega⟩
  ·refine em [] trivial ⟨cq,cq,cq,cq,tt⟩ trivial
 ·rintro i ⟨hi,hn⟩;refine sg rfl ?_;refine sq ?_;refine cd rfl (fun h2=>?_) (fun h2=>?_)
  ·have hil:i<f.sels.length:=by simpa using h2
   have hsb:=yS hst i hil;have hcl:(aU f i).cases.length≤4:=by
    simp only [N9,Bool.and_eq_true,decide_eq_true_eq]at hsb;simp only [aU];omega
   refine sk (sq (bk (sq (rgs [] rfl ?_ ?_))))
   ·simp [ak,under];omega
   refine sq (sq (rg [] rfl ?_));refine bk ?_;refine WP.loop (α:=Nat) (fun k=>aK [(0,.rp 257 (Bc p f)),(4,.rp 103 (fD (aU f i))),(15,rowP 103 fD wL f.sels),(16,.int f.sels.length),(17,.int i),(22,rowP 215 mP EK (aU f i).cases),(23,.int (aU f i).cases.length),(24,.int k)] []) (fun k=>k≤(aU f i).cases.length ∧ ∀ j,j<k→oW p f (aC (aU f i) j)=0) (fun k=>(aU f i).cases.length - k) ?_ ?_
   ·refine ⟨0,?_,?_⟩
    ·exact ⟨Nat.zero_le _,fun j hj=>by omega⟩
    ·refine em [(.s 4 0,1)] ⟨⟨_,rfl,Nat.le_refl _⟩,tt⟩ ⟨cq,⟨rfl,_,rfl,aZ rfl rfl (by decide) rfl rfl rfl⟩,cq,cq,cq,cq,cq,cq,tt⟩ trivial
   ·rintro k ⟨hk,hc⟩;refine sg rfl ?_;refine sq ?_;refine cd rfl (fun h5=>?_) (fun h5=>?_)
    ·have hkl:k<(aU f i).cases.length:=by simpa using h5
     refine sk (sq (bk (sq (rgs [] rfl ?_ ?_))))
     ·have hkl2:k<(f.sels[i]?.getD wL).cases.length:=hkl;simp [ak,under];omega
     refine sq (sq (drs [CG.pure (.int (fK (aC (aU f i) k).chan p.chans.length))] rfl ?_ ?_))
     ·have ho:=nN (aC (aU f i) k).chan p.chans.length;refine ⟨⟨rfl,rfl⟩,?_⟩;exact ho
     refine sg rfl ?_;refine cd rfl (fun h8=>?_) (fun h8=>?_)
     ·have hb:fK (aC (aU f i) k).chan p.chans.length≠0:=by simpa using h8
      refine sg rfl ?_;refine WP.ret ?_;change Fin ..;refine cZ hT (by rfl) ?_;rw [Uc hb,iZ hil hn (jT hkl hc (by rw [oW,if_pos hb]) (by decide)) (by decide)]
     ·have hb:fK (aC (aU f i) k).chan p.chans.length=0:=by simpa using h8
      have hch:=oO hb;refine sk (sq (sq (rg [] rfl ?_)));refine cd rfl (fun h10=>?_) (fun h10=>?_)
      ·have hsr:((aC (aU f i) k).send||(aC (aU f i) k).reg != -1)=true:=by
        have e:(bif (aC (aU f i) k).send then true else (aC (aU f i) k).reg != -1)=true:=h10
        rwa [bor]at e
       refine sq (rgs [CG.pure (.int (gK f (aC (aU f i) k).reg))] rfl ?_ ?_)
       ·have ho:=qo p f (aC (aU f i) k).reg;refine ⟨⟨rfl,rfl⟩,?_⟩;exact ho
       refine sg rfl ?_;refine cd rfl (fun h12=>?_) (fun h12=>?_)
       ·have hr:gK f (aC (aU f i) k).reg≠0:=by simpa using h12
        refine sg rfl ?_;refine WP.ret ?_;change Fin ..;refine cZ hT (by rfl) ?_;rw [TJ hr,iZ hil hn (jT hkl hc (by rw [oW,if_neg (fun h=>h hb),if_pos ⟨hsr,hr⟩]) (by decide)) (by decide)]
       ·have hr:¬ (((aC (aU f i) k).send||(aC (aU f i) k).reg != -1)=true∧gK f (aC (aU f i) k).reg≠0):=fun h=>h.2 (by simpa using h12);refine sk (sq (sq (drs [] rfl ?_ ?_)))
        ·simp only [aU,aC,List.getD_eq_getElem?_getD]at hch;simp [ak,under];exact fun _=>hch
        refine cd rfl (fun h14=>?_) (fun h14=>?_)
        ·have hz:((aC (aU f i) k).send&&p.chans.getD (aC (aU f i) k).chan.toNat 0==0)=true:=by
          have e:(bif (aC (aU f i) k).send then p.chans.getD (aC (aU f i) k).chan.toNat 0==0 else false)=true:=h14
          rwa [band]at e
         refine sg rfl ?_;refine WP.ret ?_;change Fin ..;refine cZ hT (by rfl) ?_;rw [iZ hil hn (jT hkl hc (by rw [oW,if_neg (fun h=>h hb),if_neg hr,if_pos hz]) (by decide)) (by decide)]
        ·have hz:¬ ((aC (aU f i) k).send&&p.chans.getD (aC (aU f i) k).chan.toNat 0==0)=true:=by
          have e:(bif (aC (aU f i) k).send then p.chans.getD (aC (aU f i) k).chan.toNat 0==0 else false)=false:=h14;rw [band]at e;rw [e];decide
         have hcf:oW p f (aC (aU f i) k)=gy f (aC (aU f i) k).to:=by rw [oW,if_neg (fun h=>h hb),if_neg hr,if_neg hz]
         refine sk (sq (rgs [CG.pure (.int (gy f (aC (aU f i) k).to))] rfl ?_ ?_))
         ·have ho:=vT p f (aC (aU f i) k).to;refine ⟨⟨rfl,rfl⟩,?_⟩;exact ho
         refine sg rfl ?_;refine cd rfl (fun h17=>?_) (fun h17=>?_)
         ·have ht:gy f (aC (aU f i) k).to≠0:=by simpa using h17
          refine sg rfl ?_;refine WP.ret ?_;change Fin ..;refine cZ hT (by rfl) ?_;rw [iZ hil hn (jT hkl hc hcf ht) ht]
         ·have ht:gy f (aC (aU f i) k).to=0:=by simpa using h17
          refine sk (rg [] rfl ?_);refine ⟨k+1,?_,?_,?_⟩
          ·exact ⟨hkl,fZ hc (by rw [hcf,ht])⟩
          ·refine em [] trivial ⟨cq,cq,cq,cq,cq,cq,cq,cq,tt⟩ trivial
          ·(try simp only []);first | omega | grind
      ·have hr:¬ (((aC (aU f i) k).send||(aC (aU f i) k).reg != -1)=true∧gK f (aC (aU f i) k).reg≠0):=by
        have e:(bif (aC (aU f i) k).send then true else (aC (aU f i) k).reg != -1)=false:=h10;rw [bor]at e;rw [e];simp
       refine sk (sq (sq (drs [] rfl ?_ ?_)))
       ·simp only [aU,aC,List.getD_eq_getElem?_getD]at hch;simp [ak,under];exact fun _=>hch
       refine cd rfl (fun h14=>?_) (fun h14=>?_)
       ·have hz:((aC (aU f i) k).send&&p.chans.getD (aC (aU f i) k).chan.toNat 0==0)=true:=by
         have e:(bif (aC (aU f i) k).send then p.chans.getD (aC (aU f i) k).chan.toNat 0==0 else false)=true:=h14
         rwa [band]at e
        refine sg rfl ?_;refine WP.ret ?_;change Fin ..;refine cZ hT (by rfl) ?_;rw [iZ hil hn (jT hkl hc (by rw [oW,if_neg (fun h=>h hb),if_neg hr,if_pos hz]) (by decide)) (by decide)]
       ·have hz:¬ ((aC (aU f i) k).send&&p.chans.getD (aC (aU f i) k).chan.toNat 0==0)=true:=by
         have e:(bif (aC (aU f i) k).send then p.chans.getD (aC (aU f i) k).chan.toNat 0==0 else false)=false:=h14;rw [band]at e;rw [e];decide
        have hcf:oW p f (aC (aU f i) k)=gy f (aC (aU f i) k).to:=by rw [oW,if_neg (fun h=>h hb),if_neg hr,if_neg hz]
        refine sk (sq (rgs [CG.pure (.int (gy f (aC (aU f i) k).to))] rfl ?_ ?_))
        ·have ho:=vT p f (aC (aU f i) k).to;refine ⟨⟨rfl,rfl⟩,?_⟩;exact ho
        refine sg rfl ?_;refine cd rfl (fun h17=>?_) (fun h17=>?_)
        ·have ht:gy f (aC (aU f i) k).to≠0:=by simpa using h17
         refine sg rfl ?_;refine WP.ret ?_;change Fin ..;refine cZ hT (by rfl) ?_;rw [iZ hil hn (jT hkl hc hcf ht) ht]
        ·have ht:gy f (aC (aU f i) k).to=0:=by simpa using h17
         refine sk (rg [] rfl ?_);refine ⟨k+1,?_,?_,?_⟩
         ·exact ⟨hkl,fZ hc (by rw [hcf,ht])⟩
         ·refine em [] trivial ⟨cq,cq,cq,cq,cq,cq,cq,cq,tt⟩ trivial
         ·(try simp only []);first | omega | grind
    ·have hkl:k=(aU f i).cases.length:=by simp only [decide_eq_false_iff_not]at h5;omega
     subst hkl;have hsf:MZ p f (aU f i)=Bd f (aU f i):=by rw [MZ,jF hc];simp
     refine xt (sq (rg [] rfl ?_));refine cd rfl (fun h20=>?_) (fun h20=>?_)
     ·have he:(aU f i).els ≠ -1:=by simpa using h20
      refine sq (rgs [CG.pure (.int (gy f (aU f i).els))] rfl ?_ ?_)
      ·have ho:=vT p f (aU f i).els;exact ho
      refine sg rfl ?_;refine cd rfl (fun h22=>?_) (fun h22=>?_)
      ·have ht:gy f (aU f i).els≠0:=by simpa using h22
       refine sg rfl ?_;refine WP.ret ?_;change Fin ..;refine cZ hT (by rfl) ?_;rw [iZ hil hn (by rw [hsf,Bd,if_pos he]) ht]
      ·have ht:gy f (aU f i).els=0:=by simpa using h22
       refine sk (rg [] rfl ?_);refine ⟨i+1,?_,?_,?_⟩
       ·exact ⟨hil,fZ hn (by rw [hsf,Bd,if_pos he,ht])⟩
       ·refine em [] trivial ⟨cq,cq,cq,cq,tt⟩ trivial
       ·(try simp only []);first | omega | grind
     ·have he:(aU f i).els = -1:=by simpa using h20
      refine sk (rg [] rfl ?_);refine ⟨i+1,?_,?_,?_⟩
      ·exact ⟨hil,fZ hn (by rw [hsf,Bd,if_neg (fun h=>h he)])⟩
      ·refine em [] trivial ⟨cq,cq,cq,cq,tt⟩ trivial
      ·(try simp only []);first | omega | grind
  ·have hil:i=f.sels.length:=by simp at h2;omega
   subst hil;refine xt (sq (rg [] rfl ?_));exact WP.ret (cZ hT (by rfl) (by rw [qY,jF hn]))
theorem Y3 (n m:Int):fK n m≠0↔bT n m=false:=by
 unfold fK;cases bT n m <;> simp
theorem VD (f:iL) (n:Int):gK f n≠0↔bT n f.regs=false:=by
 unfold gK;cases bT n f.regs <;> simp
theorem I7 (p:ay) (f:iL) (m:Bool) (hf:eH f m=true):AC Tryz.prog T bn 108 [aj p,dI f] [] (.int (qY p f)) []:=by
 refine aA hT Tryz.func108 rfl rfl (Nat.le_of_ble_eq_true rfl) ?_;have hsz:szF f m=true:=by rw [eH,Bool.and_eq_true]at hf;exact hf.1
 have hst:uY f f.sels.length=true:=by rw [eH,Bool.and_eq_true]at hf;exact hf.2
 rw [oK]at hsz;refine sg rfl ?_;refine sq (sq (rg [] rfl ?_));refine bk ?_;refine WP.loop (α:=Nat) (fun i=>aK [(2,.rp 26 (aj p)),(3,.rp 100 (dI f)),(10,rowP 103 fD wL f.sels),(11,.int f.sels.length),(12,.int i)] []) (fun i=>i≤f.sels.length ∧ ∀ j,j<i→MZ p f (aU f j)=0) (fun i=>f.sels.length - i) ?_ ?_
 ·refine ⟨0,?_,?_⟩
  ·exact ⟨Nat.zero_le _,fun j hj=>by omega⟩
  ·refine em [(.s 2 0,1),(.s 3 0,1)] ⟨⟨_,rfl,Nat.le_refl _⟩,⟨_,rfl,Nat.le_refl _⟩,tt⟩ ⟨⟨rfl,_,rfl,aZ rfl rfl (by decide) rfl rfl rfl⟩,⟨rfl,_,rfl,aZ rfl rfl (by decide) rfl rfl rfl⟩,cq,cq,cq,tt⟩ trivial
 ·rintro i ⟨hi,hn⟩;refine sg rfl ?_;refine sq ?_;refine cd rfl (fun h2=>?_) (fun h2=>?_)
  ·have hil:i<f.sels.length:=by simpa using h2
   have hsb:=yS hst i hil;have hcl:(aU f i).cases.length≤4:=by
    simp only [N9,Bool.and_eq_true,decide_eq_true_eq]at hsb;simp only [aU];omega
   refine sk (sq (bk (sq (rgs [] rfl ?_ ?_))))
   ·simp [ak,under];omega
   refine sq (sq (rg [] rfl ?_));refine bk ?_;refine WP.loop (α:=Nat) (fun k=>aK [(2,.rp 26 (aj p)),(3,.rp 100 (dI f)),(6,.rp 103 (fD (aU f i))),(10,rowP 103 fD wL f.sels),(11,.int f.sels.length),(12,.int i),(17,rowP 215 mP EK (aU f i).cases),(18,.int (aU f i).cases.length),(19,.int k)] []) (fun k=>k≤(aU f i).cases.length ∧ ∀ j,j<k→oW p f (aC (aU f i) j)=0) (fun k=>(aU f i).cases.length - k) ?_ ?_
   ·refine ⟨0,?_,?_⟩
    ·exact ⟨Nat.zero_le _,fun j hj=>by omega⟩
    ·refine em [(.s 6 0,1)] ⟨⟨_,rfl,Nat.le_refl _⟩,tt⟩ ⟨cq,cq,⟨rfl,_,rfl,aZ rfl rfl (by decide) rfl rfl rfl⟩,cq,cq,cq,cq,cq,cq,tt⟩ trivial
   ·rintro k ⟨hk,hc⟩;refine sg rfl ?_;refine sq ?_;refine cd rfl (fun h5=>?_) (fun h5=>?_)
    ·have hkl:k<(aU f i).cases.length:=by simpa using h5
     refine sk (sq (bk (sq (rgs [] rfl ?_ ?_))))
     ·have hkl2:k<(f.sels[i]?.getD wL).cases.length:=hkl;simp [ak,under];omega
     refine sq (sq (rgs [CG.pure (.bool (bT (aC (aU f i) k).chan p.chans.length))] rfl ?_ ?_))
     ·have ho:=fV (aC (aU f i) k).chan p.chans.length;refine ⟨⟨rfl,rfl⟩,?_⟩;exact ho
     refine cd rfl (fun h7=>?_) (fun h7=>?_)
     ·have hb:fK (aC (aU f i) k).chan p.chans.length≠0:=(Y3 _ _).2 (by simpa using h7);refine sg rfl ?_;refine WP.ret ?_;change Fin ..;refine cZ hT (by rfl) ?_;rw [iZ hil hn (jT hkl hc (by rw [oW,if_pos hb]) (by decide)) (by decide)]
     ·have hb:fK (aC (aU f i) k).chan p.chans.length=0:=by
       have e:bT (aC (aU f i) k).chan p.chans.length=true:=by simpa using h7
       rw [fK,if_pos e]
      have hch:=oO hb;refine sk (sq (sq (rgs [CG.pure (.bool (bT (aC (aU f i) k).reg f.regs))] rfl ?_ ?_)))
      ·have ho:=fV (aC (aU f i) k).reg f.regs;simp [ak,under,CG.pure];refine ⟨ho,?_⟩;intro a b;simp [a,b]
      refine cd rfl (fun h9=>?_) (fun h9=>?_)
      ·have hr:((aC (aU f i) k).send||(aC (aU f i) k).reg != -1)=true∧gK f (aC (aU f i) k).reg≠0:=by
        have e:(bif !bT (aC (aU f i) k).reg f.regs then (bif (aC (aU f i) k).send then true else (aC (aU f i) k).reg != -1)else false)=true:=h9;rw [band,bor,Bool.and_eq_true]at e;exact ⟨e.2,(VD _ _).2 (by simpa using e.1)⟩
       refine sg rfl ?_;refine WP.ret ?_;change Fin ..;refine cZ hT (by rfl) ?_;rw [iZ hil hn (jT hkl hc (by rw [oW,if_neg (fun h=>h hb),if_pos hr]) (by decide)) (by decide)]
      ·have hr:¬ (((aC (aU f i) k).send||(aC (aU f i) k).reg != -1)=true∧gK f (aC (aU f i) k).reg≠0):=by
        have e:(bif !bT (aC (aU f i) k).reg f.regs then (bif (aC (aU f i) k).send then true else (aC (aU f i) k).reg != -1)else false)=false:=h9;rw [band,bor]at e;rintro ⟨a,b⟩;rw [a,(VD _ _).1 b]at e;cases e
       refine sk (sq (sq (rgs [] rfl ?_ ?_)))
       ·simp [ak,under];exact fun _=>hch
       refine cd rfl (fun h11=>?_) (fun h11=>?_)
       ·have hz:((aC (aU f i) k).send&&p.chans.getD (aC (aU f i) k).chan.toNat 0==0)=true:=by
         have e:(bif (aC (aU f i) k).send then p.chans.getD (aC (aU f i) k).chan.toNat 0==0 else false)=true:=h11
         rwa [band]at e
        refine sg rfl ?_;refine WP.ret ?_;change Fin ..;refine cZ hT (by rfl) ?_;rw [iZ hil hn (jT hkl hc (by rw [oW,if_neg (fun h=>h hb),if_neg hr,if_pos hz]) (by decide)) (by decide)]
       ·have hz:¬ ((aC (aU f i) k).send&&p.chans.getD (aC (aU f i) k).chan.toNat 0==0)=true:=by
         have e:(bif (aC (aU f i) k).send then p.chans.getD (aC (aU f i) k).chan.toNat 0==0 else false)=false:=h11;rw [band]at e;rw [e];decide
        have hcf:oW p f (aC (aU f i) k)=gy f (aC (aU f i) k).to:=by rw [oW,if_neg (fun h=>h hb),if_neg hr,if_neg hz]
        refine sk (sq (rgs [CG.pure (.bool (bT (aC (aU f i) k).to f.code.length))] rfl ?_ ?_))
        ·have ho:=fV (aC (aU f i) k).to f.code.length;refine ⟨⟨rfl,rfl⟩,?_⟩;exact ho
        refine cd rfl (fun h13=>?_) (fun h13=>?_)
        ·have ht:gy f (aC (aU f i) k).to=38:=by
          have e:bT (aC (aU f i) k).to f.code.length=false:=by simpa using h13
          rw [gy,e];rfl
         refine sg rfl ?_;refine WP.ret ?_;change Fin ..;refine cZ hT (by rfl) ?_;rw [iZ hil hn (jT hkl hc (by rw [hcf,ht]) (by decide)) (by decide)]
        ·have ht:gy f (aC (aU f i) k).to=0:=by
          have e:bT (aC (aU f i) k).to f.code.length=true:=by simpa using h13
          rw [gy,if_pos e]
         refine sk (rg [] rfl ?_);refine ⟨k+1,?_,?_,?_⟩
         ·exact ⟨hkl,fZ hc (by rw [hcf,ht])⟩
         ·refine em [] trivial ⟨cq,cq,cq,cq,cq,cq,cq,cq,cq,tt⟩ trivial
         ·(try simp only []);first | omega | grind
    ·have hkl:k=(aU f i).cases.length:=by simp only [decide_eq_false_iff_not]at h5;omega
     subst hkl;have hsf:MZ p f (aU f i)=Bd f (aU f i):=by rw [MZ,jF hc];simp
     refine xt (sq (rgs [CG.pure (.bool (bT (aU f i).els f.code.length))] rfl ?_ ?_))
     ·have ho:=fV (aU f i).els f.code.length;simp [ak,under,CG.pure];exact fun _=>ho
     refine cd rfl (fun h16=>?_) (fun h16=>?_)
     ·have he:Bd f (aU f i)=38:=by
       have e:(bif (aU f i).els != -1 then !bT (aU f i).els f.code.length else false)=true:=h16;rw [band,Bool.and_eq_true,Bool.not_eq_true']at e;rw [Bd,if_pos (by simpa using e.1),gy,e.2];rfl
      refine sg rfl ?_;refine WP.ret ?_;change Fin ..;refine cZ hT (by rfl) ?_;rw [iZ hil hn (by rw [hsf,he]) (by decide)]
     ·have he:Bd f (aU f i)=0:=by
       have e:(bif (aU f i).els != -1 then !bT (aU f i).els f.code.length else false)=false:=h16;rw [band]at e;rw [Bd];split
       ·rename_i h1;rw [show ((aU f i).els != -1)=true by simpa using h1,Bool.true_and]at e;rw [gy,if_pos (by simpa using e)]
       ·rfl
      refine sk (rg [] rfl ?_);refine ⟨i+1,?_,?_,?_⟩
      ·exact ⟨hil,fZ hn (by rw [hsf,he])⟩
      ·refine em [] trivial ⟨cq,cq,cq,cq,cq,tt⟩ trivial
      ·(try simp only []);first | omega | grind
  ·have hil:i=f.sels.length:=by simp at h2;omega
   subst hil;refine xt (sq (rg [] rfl ?_));exact WP.ret (cZ hT (by rfl) (by rw [qY,jF hn]))
def fkE {α:Type} (g:α→Int):List α→Nat
 | []=>0
 | x::r=>if g x≠0 then 0 else fkE g r+1
theorem QG {α:Type} {g:α→Int} {d:α}:∀ {l:List α} {i:Nat},i<l.length→(∀ j,j<i→g (l.getD j d)=0)→g (l.getD i d)≠0→fkE g l=i
 | x::r,0,_,_,hb=>by
  have hb':g x≠0:=hb;rw [fkE,if_pos hb']
 | x::r,i+1,hi,hn,hb=>by
  have h0:=hn 0 (by omega);rw [fkE,if_neg (by simpa using h0)];rw [QG (l:=r) (i:=i) (by simpa using hi) (fun j hj=>hn (j+1) (by omega)) hb]
def yH (a b:Int):AV:=cu 128 [.int a,.int b]
def yN (f:iL):Int:=(f.code.getD (f.code.length - 1) qR).op
def BH (op:Int):Bool:=op==42||op==45||op==61
theorem QS {x:Int} (h:(x==42)=true):BH x=true:=by rw [BH,h];rfl
theorem QO {x:Int} (h:(x==45)=true):BH x=true:=by rw [BH,h];simp
theorem QN {x:Int} (h:(x==61)=true):BH x=true:=by rw [BH,h];simp
theorem QM {x:Int} (h1:(x==42)=false) (h2:(x==45)=false) (h3:(x==61)=false):BH x=false:=by rw [BH,h1,h2,h3];rfl
def AA (p:ay) (f:iL) (main:Bool):Int×Int :=
 if eH f main=false then (32,0)else if qY p f≠0 then (qY p f,0)else
 if Jw (iH p f) f.code≠0 then (Jw (iH p f) f.code,fkE (iH p f) f.code)else
 if BH (yN f)then (0,0)else (39,(f.code.length:Int) - 1)
abbrev aY (p:ay) (i:Nat):iL:=p.funcs.getD i mD
def oC (p:ay):Nat→Nat→Int×Int×Int
 | 0,_=>(0,0,0)
 | n+1,i=>if (AA p (aY p i) (i==0)).1≠0 then ((AA p (aY p i) (i==0)).1,i,(AA p (aY p i) (i==0)).2)else oC p n (i+1)
def nU (p:ay):Int×Int×Int:=if jS p≠0 then (jS p,0,0)else oC p p.funcs.length 0
theorem qw {p:ay}:∀ {i n:Nat},i≤n→(∀ j,j<i→(AA p (aY p j) (j==0)).1=0)→oC p n 0=oC p (n - i) i
 | 0,n,_,_=>rfl
 | i+1,n,h,hn=>by
  rw [qw (i:=i) (by omega) (fun j hj=>hn j (by omega)),show n - i=(n - (i+1))+1 by omega,oC,if_neg (fun h=>h (hn i (by omega)))]
theorem oI {p:ay} {i:Nat} {e pc:Int} (hw:jS p=0) (hi:i<p.funcs.length) (hn:∀ j,j<i→(AA p (aY p j) (j==0)).1=0) (he:AA p (aY p i) (i==0)=(e,pc)) (h0:e≠0):nU p=(e,(i:Int),pc):=by
 rw [nU,if_neg (by simp [hw]),qw (Nat.le_of_lt hi) hn,show p.funcs.length - i=(p.funcs.length - i - 1)+1 by omega,oC,he,if_pos h0]
theorem Md {p:ay} (hw:jS p=0) (hn:∀ j,j<p.funcs.length→(AA p (aY p j) (j==0)).1=0):nU p=(0,0,0):=by
 rw [nU,if_neg (by simp [hw]),qw (Nat.le_refl _) hn,Nat.sub_self];rfl
def yE (p:ay):AV := .tup [.int (nU p).1,yH (nU p).2.1 (nU p).2.2]
theorem NC (a b:Int):eG (yH a b)=true:=rfl
theorem jG {nt:Nat} {st:St} {p:ay} {e a b:Int} {B:Blk} (hc:nU p=(e,a,b)) (h2:st.t 2=some (.always,.int e)) (h3:st.t 3=some (.always,.ptr (.s 3 0) 1 0 [])) (hm:st.m (.s 3 0)=some (.cells B)) (hty:B.ty=128) (hn1:B.n=1) (hfz:B.fz=0) (hy:Conv st.m (fun id=>dP id []) T (B.get 0) (yH a b)):Fin T bn nt 0 [.tmp 2,.cell 3 128] (yE p) [] st:=by
 obtain ⟨ty,n,get,fz⟩:=B;simp only at hty hn1 hfz hy;subst hty hn1 hfz;rw [yE,hc];refine Fin.ent (Ent.mk (P:=Tryz.prog) hT [] (ts:=[(2,.int e),(3,.ptr (.s 3 0) 1 0 [])]) (ms:=[(.s 3 0,.cells ⟨128,1,fun _=>yH a b,0⟩)]) trivial ⟨⟨rfl,_,h2,ah rfl⟩,⟨rfl,_,h3,ah rfl⟩,tt⟩ ⟨⟨fun _ _=>rfl,.inl ⟨_,hm,_,_,rfl,Nat.le_refl _,Nat.zero_le _,Nat.zero_le _,fun q hq=>?_⟩⟩,tt⟩ rfl) ?_
 ·obtain rfl:q=0:=by simp at hq;exact hq
  exact hy
 ·refine aJ hT [(.s 3 0,1)] (ts:=[(2,.int e),(3,.rp 128 (yH a b))]) (l:=[.int e,yH a b]) ⟨⟨_,rfl,Nat.le_refl _⟩,tt⟩ ⟨⟨rfl,_,rfl,ah rfl⟩,⟨rfl,_,rfl,?_⟩,tt⟩ trivial rfl rfl rfl;exact aZ rfl rfl (by simp [dP,aI]) rfl rfl (NC a b)
theorem zZ (p:ay):AC Tryz.prog T bn 111 [aj p] [] (yE p) []:=by
 refine aA hT Tryz.func111 rfl rfl (Nat.le_of_ble_eq_true rfl) ?_;refine sg rfl ?_;refine sq (sq (rgs [CG.pure (.int (jS p))] rfl ?_ ?_))
 ·have hw:=RU p;exact ⟨rfl,hw⟩
 refine sg rfl ?_;refine cd rfl (fun h2=>?_) (fun h2=>?_)
 ·have hw:jS p≠0:=by simpa using h2
  refine sg rfl ?_;refine WP.ret ?_;change Fin ..;refine jG (e:=jS p) (a:=0) (b:=0) (by rw [nU,if_pos hw]) rfl rfl rfl rfl rfl rfl ?_;exact ah rfl
 ·have hw:jS p=0:=by simpa using h2
  have hfl:p.funcs.length≤8:=by
   have h1:szB p=false:=by
    unfold jS at hw;split at hw
    ·cases hw
    ·rename_i h;simpa using h
   simp [szB]at h1;omega
  refine sk (sq (sq (rg [] rfl ?_)));refine bk ?_;refine WP.loop (α:=Nat) (fun i=>aK [(1,.rp 26 (aj p)),(3,.ptr (.s 3 0) 1 0 []),(21,rowP 100 dI mD p.funcs),(22,.int p.funcs.length),(23,.int i)] [(.s 3 0,.cells ⟨128,1,fun _=>yH 0 0,0⟩)]) (fun i=>i≤p.funcs.length ∧ ∀ j,j<i→(AA p (aY p j) (j==0)).1=0) (fun i=>p.funcs.length - i) ?_ ?_
  ·refine ⟨0,?_,?_⟩
   ·exact ⟨Nat.zero_le _,fun j hj=>by omega⟩
   ·refine em [(.s 1 0,1)] ⟨⟨_,rfl,Nat.le_refl _⟩,tt⟩ ⟨⟨rfl,_,rfl,aZ rfl rfl (by decide) rfl rfl rfl⟩,cq,cq,cq,cq,tt⟩ ⟨obs rfl,tt⟩
  ·rintro i ⟨hi,hn⟩;refine sg rfl ?_;refine sq ?_;refine cd rfl (fun h5=>?_) (fun h5=>?_)
   ·have hil:i<p.funcs.length:=by simpa using h5
    refine sk (sq (bk (sq (rgs [] rfl ?_ ?_))))
    ·simp [ak,under];omega
    refine sq (sq (rgs [CG.pure (.int (if eH (aY p i) (i==0)then 0 else 32))] rfl ?_ ?_))
    ·have hz:=SI (aY p i) (i==0);have ei:((i:Int)==0)=(i==0):=by rw [Bool.eq_iff_iff];simp
     refine ⟨rfl,?_⟩;have hz2:AC Tryz.prog T bn 155 [dI (aY p i),.bool ((i:Int)==0)] [] (.int (if eH (aY p i) (i==0)then 0 else 32)) []:=by rw [ei];exact hz
     exact hz2
    refine sg rfl ?_;refine cd rfl (fun h8=>?_) (fun h8=>?_)
    ·have hb:eH (aY p i) (i==0)=false:=by
      cases hz:eH (aY p i) (i==0)with
      | false=>rfl
      | true=>rw [hz]at h8;simp at h8
     refine sg rfl ?_;refine WP.ret ?_;change Fin ..;exact jG (e:=(if eH (aY p i) (i==0)then 0 else 32)) (a:=i) (b:=0) (by rw [hb];exact oI (e:=32) hw hil hn (by rw [AA,if_pos hb]) (by decide)) rfl rfl rfl rfl rfl rfl (ah (bg (fun q=>by match q with | 0 | 1 | q+2=>rfl)))
    ·have hb:eH (aY p i) (i==0)=true:=by
      cases hz:eH (aY p i) (i==0)with
      | true=>rfl
      | false=>rw [hz]at h8;simp at h8
     have h64:(aY p i).code.length≤64∧1≤(aY p i).code.length:=by
      have h1:szF (aY p i) (i==0)=true:=by
       have h2:=hb;rw [eH,Bool.and_eq_true]at h2;exact h2.1
      rw [oK]at h1;omega
     refine sk (sq (rg [] rfl ?_));refine sq (sq ?_);refine WP.ent (st':=aK [(1,.rp 26 (aj p)),(3,.ptr (.s 3 0) 1 0 []),(5,.int i),(6,.rp 100 (dI (aY p i))),(8,.rp 257 (Bc p (aY p i))),(21,rowP 100 dI mD p.funcs),(22,.int p.funcs.length),(23,.int i)] [(.s 3 0,.cells ⟨128,1,fun _=>yH 0 0,0⟩)]) ?_ ?_
     ·refine em [(.s 6 0,1),(.s 40 0,1)] ⟨⟨_,rfl,Nat.le_refl _⟩,⟨_,rfl,Nat.le_refl _⟩,tt⟩ ⟨cq,cq,cq,⟨rfl,_,rfl,aZ rfl rfl (by decide) rfl rfl rfl⟩,⟨rfl,_,rfl,aZ rfl rfl (by decide) rfl (bg (fun q=>by match q with | 0 | 1 | q+2=>rfl)) rfl⟩,cq,cq,cq,tt⟩ ⟨obs rfl,tt⟩
     refine rgs [CG.pure (.int (qY p (aY p i)))] rfl ?_ ?_
     ·have hs:=MX p (aY p i) (i==0) hb;exact hs
     refine sg rfl ?_;refine cd rfl (fun h12=>?_) (fun h12=>?_)
     ·have hs:qY p (aY p i)≠0:=by simpa using h12
      refine sg rfl ?_;refine WP.ret ?_;change Fin ..;exact jG (e:=qY p (aY p i)) (a:=i) (b:=0) (oI hw hil hn (by rw [AA,if_neg (by rw [hb];decide),if_pos hs]) hs) rfl rfl rfl rfl rfl rfl (ah (bg (fun q=>by match q with | 0 | 1 | q+2=>rfl)))
     ·have hs:qY p (aY p i)=0:=by simpa using h12
      refine sk (sq (sq (rg [] rfl ?_)));refine bk ?_;refine WP.loop (α:=Nat) (fun k=>aK [(1,.rp 26 (aj p)),(3,.ptr (.s 3 0) 1 0 []),(5,.int i),(6,.rp 100 (dI (aY p i))),(8,.rp 257 (Bc p (aY p i))),(21,rowP 100 dI mD p.funcs),(22,.int p.funcs.length),(23,.int i),(49,rowP 120 aP qR (aY p i).code),(50,.int (aY p i).code.length),(51,.int k)] [(.s 3 0,.cells ⟨128,1,fun _=>yH 0 0,0⟩)]) (fun k=>k≤(aY p i).code.length ∧ ∀ j,j<k→iH p (aY p i) ((aY p i).code.getD j qR)=0) (fun k=>(aY p i).code.length - k) ?_ ?_
      ·refine ⟨0,?_,?_⟩
       ·exact ⟨Nat.zero_le _,fun j hj=>by omega⟩
       ·refine em [] trivial ⟨cq,cq,cq,cq,cq,cq,cq,cq,cq,cq,cq,tt⟩ ⟨obs rfl,tt⟩
      ·rintro k ⟨hk,hc⟩;refine sg rfl ?_;refine sq ?_;refine cd rfl (fun h15=>?_) (fun h15=>?_)
       ·have hkl:k<(aY p i).code.length:=by simpa using h15
        refine sk (sq (bk (sq (rgs [] rfl ?_ ?_))))
        ·have hkl2:k<(p.funcs[i]?.getD mD).code.length:=hkl;simp [ak,under];omega
        refine sq (rgs [CG.pure (.int (iH p (aY p i) ((aY p i).code.getD k qR)))] rfl ?_ ?_)
        ·have hx:=Ul p (aY p i) ((aY p i).code.getD k qR);refine ⟨rfl,?_⟩;exact hx
        refine sg rfl ?_;refine cd rfl (fun h18=>?_) (fun h18=>?_)
        ·have hx:iH p (aY p i) ((aY p i).code.getD k qR)≠0:=by simpa using h18
         refine sg rfl ?_;refine WP.ret ?_;change Fin ..;exact jG (e:=iH p (aY p i) ((aY p i).code.getD k qR)) (a:=i) (b:=k) (oI hw hil hn (by rw [AA,if_neg (by rw [hb];decide),if_neg (fun h=>h hs),vG hkl hc hx,QG hkl hc hx,if_pos hx]) hx) rfl rfl rfl rfl rfl rfl (ah (bg (fun q=>by match q with | 0 | 1 | q+2=>rfl)))
        ·have hx:iH p (aY p i) ((aY p i).code.getD k qR)=0:=by simpa using h18
         refine sk (rg [] rfl ?_);refine ⟨k+1,?_,?_,?_⟩
         ·exact ⟨hkl,fZ hc hx⟩
         ·refine em [] trivial ⟨cq,cq,cq,cq,cq,cq,cq,cq,cq,cq,cq,tt⟩ ⟨obs rfl,tt⟩
         ·(try simp only []);first | omega | grind
       ·have hkl:k=(aY p i).code.length:=by simp only [decide_eq_false_iff_not]at h15;omega
        subst hkl;refine xt (sq (rg [] rfl ?_));refine sq (rgs [] rfl ?_ ?_)
        ·have hc64:(p.funcs[i]?.getD mD).code.length≤64∧1≤(p.funcs[i]?.getD mD).code.length:=h64;simp [ak,under];rw [bC (by omega) (by omega)];omega
        refine bk (sq (sq ?_));have hlst:(aY p i).code.getD (IntKind.i64.wrap (((aY p i).code.length:Int) - 1)).toNat qR=(aY p i).code.getD ((aY p i).code.length - 1) qR:=by
         rw [bC (by omega) (by omega)];congr 1;omega
        have ho:((aY p i).code.getD (IntKind.i64.wrap (((aY p i).code.length:Int) - 1)).toNat qR).op=yN (aY p i):=by rw [hlst];rfl
        refine rg [] rfl ?_;refine cd rfl (fun h24=>?_) (fun h24=>?_)
        ·refine sk ?_;refine cd rfl (fun h24=>?_) (fun h24=>?_)
         ·refine sk (rg [] rfl ?_);refine ⟨i+1,?_,?_,?_⟩
          ·refine ⟨hil,fZ hn ?_⟩;have he:BH (yN (aY p i))=true:=by first | exact QS (by rw [← ho];exact h24) | exact QO (by rw [← ho];exact h25) | exact QN (by rw [← ho];exact h26)
           rw [AA,if_neg (by rw [hb];decide),if_neg (fun h=>h hs),if_neg (fun h=>h (jF hc)),if_pos he]
          ·refine em [] trivial ⟨cq,cq,cq,cq,cq,tt⟩ ⟨obs rfl,tt⟩
          ·(try simp only []);first | omega | grind
         ·simp_all
        ·refine sg rfl ?_;refine cd rfl (fun h25=>?_) (fun h25=>?_)
         ·refine sk ?_;refine cd rfl (fun h25=>?_) (fun h25=>?_)
          ·refine sk (rg [] rfl ?_);refine ⟨i+1,?_,?_,?_⟩
           ·refine ⟨hil,fZ hn ?_⟩;have he:BH (yN (aY p i))=true:=by first | exact QS (by rw [← ho];exact h24) | exact QO (by rw [← ho];exact h25) | exact QN (by rw [← ho];exact h26)
            rw [AA,if_neg (by rw [hb];decide),if_neg (fun h=>h hs),if_neg (fun h=>h (jF hc)),if_pos he]
           ·refine em [] trivial ⟨cq,cq,cq,cq,cq,tt⟩ ⟨obs rfl,tt⟩
           ·(try simp only []);first | omega | grind
          ·simp_all
         ·refine rg [] rfl ?_;refine cd rfl (fun h26=>?_) (fun h26=>?_)
          ·refine sk (rg [] rfl ?_);refine ⟨i+1,?_,?_,?_⟩
           ·refine ⟨hil,fZ hn ?_⟩;have he:BH (yN (aY p i))=true:=by first | exact QS (by rw [← ho];exact h24) | exact QO (by rw [← ho];exact h25) | exact QN (by rw [← ho];exact h26)
            rw [AA,if_neg (by rw [hb];decide),if_neg (fun h=>h hs),if_neg (fun h=>h (jF hc)),if_pos he]
           ·refine em [] trivial ⟨cq,cq,cq,cq,cq,tt⟩ ⟨obs rfl,tt⟩
           ·(try simp only []);first | omega | grind
          ·refine sg rfl ?_;refine WP.ret ?_;change Fin ..;have he:BH (yN (aY p i))=false:=QM (by rw [← ho];exact h24) (by rw [← ho];exact h25) (by rw [← ho];exact h26)
           exact jG (e:=39) (a:=i) (b:=IntKind.i64.wrap (((aY p i).code.length:Int) - 1)) (by
            rw [bC (by omega) (by omega)];exact oI hw hil hn (by rw [AA,if_neg (by rw [hb];decide),if_neg (fun h=>h hs),if_neg (fun h=>h (jF hc)),if_neg (by rw [he];decide)]) (by decide)) rfl rfl rfl rfl rfl rfl (ah (bg (fun q=>by match q with | 0 | 1 | q+2=>rfl)))
   ·have hil:i=p.funcs.length:=by simp at h5;omega
    subst hil;refine xt (sq (rg [] rfl ?_));exact WP.ret (jG (e:=0) (a:=0) (b:=0) (Md hw hn) rfl rfl rfl rfl rfl rfl (ah rfl))
structure PGo where
 status:Int
 func:Int
 pc:Int
 why:Int
 regs:List Int
 deriving DecidableEq
structure iM where
 buf:List Int
 len:Int
 closed:Bool
 offer:Int
 frm:Int
 val:Int
 deriving DecidableEq
structure PSt where
 vars:List Int
 owner:List Int
 chans:List iM
 gos:List PGo
 count:Int
 deriving DecidableEq
def go0:PGo:=⟨0,0,0,0,[0,0,0,0,0,0,0,0]⟩
def ch0:iM:=⟨[0,0,0,0],0,false,0,0,0⟩
def st0:PSt:=⟨[0,0,0,0,0,0,0,0],[0,0,0,0],[ch0,ch0,ch0,ch0],[go0,go0,go0,go0,go0,go0],0⟩
def Jm (g:PGo):Prop:=g.regs.length=8
def Ny (c:iM):Prop:=c.buf.length=4
structure OkS (s:PSt):Prop where
 vars:s.vars.length=8
 owner:s.owner.length=4
 chans:s.chans.length=4
 gos:s.gos.length=6
 ch:∀ c∈s.chans,Ny c
 go:∀ g∈s.gos,Jm g
def bP (g:PGo):AV:=cu 59 [.int g.status,.int g.func,.int g.pc,.int g.why,o7 52 8 .i64 g.regs]
def dW (c:iM):AV:=cu 56 [o7 54 4 .i64 c.buf,.int c.len,.bool c.closed,.int c.offer,.int c.frm,.int c.val]
def ET {α:Type} (t n:Nat) (enc:α→AV) (d:α) (l:List α):AV := .agg t n (fun i=>enc (l.getD i d))
def encS (s:PSt):AV:=cu 62 [o7 52 8 .i64 s.vars,o7 53 4 .i64 s.owner,ET 57 4 dW ch0 s.chans,ET 60 6 bP go0 s.gos,.int s.count]
theorem MJ {α:Type} {t n k:Nat} {enc:α→AV} {d x:α} {l:List α} {p:List Nat} {y:AV} (h:k<l.length) (e:(enc (l.getD k d)).put p y=enc x):(ET t n enc d l).put (k::p) y=ET t n enc d (l.set k x):=by
 simp only [ET,AV.put,AV.agg.injEq,true_and];funext j;cases hz:Nat.beq j k with
 | true =>
  have:=Nat.eq_of_beq_eq_true hz;subst this;simp only [cond_true];rw [e];simp [h]
 | false =>
  have:¬ k=j:=fun e=>by subst e;simp at hz
  simp [this]
theorem Xo (ids:List Id) (s:PSt):fB ids (encS s)=true:=rfl
theorem dV (g:PGo) (x:Int):(bP g).put [0] (.int x)=bP { g with status:=x}:=bG (Nat.le_of_ble_eq_true rfl)
theorem ng (g:PGo) (x:Int):(bP g).put [2] (.int x)=bP { g with pc:=x}:=bG (Nat.le_of_ble_eq_true rfl)
theorem zW (g:PGo) (x:Int):(bP g).put [3] (.int x)=bP { g with why:=x}:=bG (Nat.le_of_ble_eq_true rfl)
theorem jc {g:PGo} {k:Nat} (x:Int) (h:k<g.regs.length):(bP g).put [4,k] (.int x)=bP { g with regs:=g.regs.set k x}:=(bG (Nat.le_of_ble_eq_true rfl)).trans (by rw [show ([AV.int g.status,.int g.func,.int g.pc,.int g.why,o7 52 8 .i64 g.regs].getD 4 .bad)=o7 52 8 .i64 g.regs from rfl,wJ h];rfl)
theorem CO (g:PGo) (l:List Int):(bP g).put [4] (o7 52 8 .i64 l)=bP { g with regs:=l}:=bG (Nat.le_of_ble_eq_true rfl)
theorem TP (g x:PGo):(bP g).put [] (bP x)=bP x:=by cases g;rfl
theorem rU {c:iM} {k:Nat} (x:Int) (h:k<c.buf.length):(dW c).put [0,k] (.int x)=dW { c with buf:=c.buf.set k x}:=(bG (Nat.le_of_ble_eq_true rfl)).trans (by rw [show ([o7 54 4 .i64 c.buf,AV.int c.len,.bool c.closed,.int c.offer,.int c.frm,.int c.val].getD 0 .bad)=o7 54 4 .i64 c.buf from rfl,wJ h];rfl)
theorem pJ (c:iM) (x:Int):(dW c).put [1] (.int x)=dW { c with len:=x}:=bG (Nat.le_of_ble_eq_true rfl)
theorem rQ (c:iM) (x:Bool):(dW c).put [2] (.bool x)=dW { c with closed:=x}:=bG (Nat.le_of_ble_eq_true rfl)
theorem iy (c:iM) (x:Int):(dW c).put [3] (.int x)=dW { c with offer:=x}:=bG (Nat.le_of_ble_eq_true rfl)
theorem rP (c:iM) (x:Int):(dW c).put [4] (.int x)=dW { c with frm:=x}:=bG (Nat.le_of_ble_eq_true rfl)
theorem jV (c:iM) (x:Int):(dW c).put [5] (.int x)=dW { c with val:=x}:=bG (Nat.le_of_ble_eq_true rfl)
theorem tC {s:PSt} {k:Nat} (x:Int) (h:k<s.vars.length):(encS s).put [0,k] (.int x)=encS { s with vars:=s.vars.set k x}:=(bG (Nat.le_of_ble_eq_true rfl)).trans (congrArg (fun z=>cu 62 [z,o7 53 4 .i64 s.owner,ET 57 4 dW ch0 s.chans,ET 60 6 bP go0 s.gos,.int s.count]) (wJ h))
theorem yU {s:PSt} {k:Nat} (x:Int) (h:k<s.owner.length):(encS s).put [1,k] (.int x)=encS { s with owner:=s.owner.set k x}:=(bG (Nat.le_of_ble_eq_true rfl)).trans (congrArg (fun z=>cu 62 [o7 52 8 .i64 s.vars,z,ET 57 4 dW ch0 s.chans,ET 60 6 bP go0 s.gos,.int s.count]) (wJ h))
theorem rO {s:PSt} {k:Nat} {p:List Nat} {y:AV} {c:iM} (h:k<s.chans.length) (e:(dW (s.chans.getD k ch0)).put p y=dW c):(encS s).put (2::k::p) y=encS { s with chans:=s.chans.set k c}:=(bG (Nat.le_of_ble_eq_true rfl)).trans (congrArg (fun z=>cu 62 [o7 52 8 .i64 s.vars,o7 53 4 .i64 s.owner,z,ET 60 6 bP go0 s.gos,.int s.count]) (MJ h e))
theorem lu {s:PSt} {k:Nat} {p:List Nat} {y:AV} {g:PGo} (h:k<s.gos.length) (e:(bP (s.gos.getD k go0)).put p y=bP g):(encS s).put (3::k::p) y=encS { s with gos:=s.gos.set k g}:=(bG (Nat.le_of_ble_eq_true rfl)).trans (congrArg (fun z=>cu 62 [o7 52 8 .i64 s.vars,o7 53 4 .i64 s.owner,ET 57 4 dW ch0 s.chans,z,.int s.count]) (MJ h e))
theorem tH (s:PSt) (x:Int):(encS s).put [4] (.int x)=encS { s with count:=x}:=bG (Nat.le_of_ble_eq_true rfl)
theorem aav (s t:PSt):(encS s).put [] (encS t)=encS t:=by cases s;rfl
abbrev goI (s:PSt) (g:Int):PGo:=s.gos.getD g.toNat go0
abbrev chI (s:PSt) (c:Int):iM:=s.chans.getD c.toNat ch0
abbrev lT (s:PSt) (v:Int):Int:=s.vars.getD v.toNat 0
abbrev qO (s:PSt) (v:Int):Int:=s.owner.getD v.toNat 0
abbrev bZ (g:PGo) (r:Int):Int:=g.regs.getD r.toNat 0
theorem rW:OkS st0:=⟨rfl,rfl,rfl,rfl,by simp [st0,ch0,Ny],by simp [st0,go0,Jm]⟩
def dQ (p:ay):Bool:=(nU p).1==0
theorem sK {α:Type} {g:α→Int}:∀ {l:List α},Jw g l=0 → ∀ x∈l,g x=0
 | y::r,h,x,hx=>by
  rw [Jw]at h;split at h
  ·rename_i hne;exact absurd h hne
  ·rename_i hz;rcases List.mem_cons.1 hx with rfl | hx
   ·simpa using hz
   ·exact sK h x hx
theorem wo {p:ay}:∀ {n i:Nat},(oC p n i).1=0 → ∀ j,i≤j→j<i+n→(AA p (aY p j) (j==0)).1=0
 | 0,i,_,j,h1,h2=>by omega
 | n+1,i,h,j,h1,h2=>by
  rw [oC]at h;split at h
  ·rename_i hne;exact absurd h hne
  ·rename_i hz;by_cases e:j=i
   ·subst e;simpa using hz
   ·exact wo h j (by omega) (by omega)
def lq (f:iL) (n:Int):Prop:=0≤n∧n<f.regs
def bQ (n:Int) (m:Nat):Prop:=0≤n∧n<m
structure MK (p:ay) (f:iL) (x:jR):Prop where
 op:su x.op=true∨EX x.op=true
 num:1≤x.op∧x.op≤36→lq f x.a∧lq f x.b
 num2:16≤x.op∧x.op≤36→lq f x.c
 const:x.op=40∨x.op=44∨x.op=65∨x.op=63∨x.op=43→lq f x.a
 move:x.op=41→lq f x.a∧lq f x.b
 jump:x.op=42→bQ x.a f.code.length
 cond:x.op=43→bQ x.b f.code.length
 load:x.op=50→lq f x.a∧bQ x.b p.vars.length
 store:x.op=51∨x.op=54→lq f x.b∧bQ x.a p.vars.length
 bump:x.op=52→(x.a = -1∨lq f x.a)∧bQ x.b p.vars.length∧lq f x.c
 cas:x.op=53→lq f x.a∧bQ x.b p.vars.length∧lq f x.c∧lq f x.n
 lock:x.op=55∨x.op=56→0≤x.a∧x.a<p.locks
 try_:x.op=57→lq f x.a∧0≤x.b∧x.b<p.locks
 send:x.op=58→bQ x.a p.chans.length∧lq f x.b
 recv:x.op=59→(x.a = -1∨lq f x.a)∧bQ x.b p.chans.length∧(x.c = -1∨lq f x.c)
 close:x.op=60→bQ x.a p.chans.length
 sel:x.op=61→bQ x.a f.sels.length
 spawn:x.op=62→(x.a = -1∨lq f x.a)∧bQ x.b p.funcs.length∧(∀ g,g=p.funcs.getD x.b.toNat mD→(g.params=0∧x.c=0)∨0<g.params∧0≤x.c∧(x.c≤IntKind.i64.wrap (f.regs - g.params)))
theorem Dp {p:ay} {f:iL} {x:jR}:∀ {n:Nat},qU p f x n=0 → ∀ k,k<n→aW p f (yL x.op k) ((opL x).getD k 0) x=0
 | n+1,h,k,hk=>by
  rw [qU]at h;split at h
  ·rename_i hne;exact absurd h hne
  ·rename_i hz;by_cases e:k=n
   ·subst e;exact h
   ·exact Dp (by simpa using hz) k (by omega)
theorem D5 {f:iL} {n:Int} (h:gK f n=0):lq f n:=by
 unfold gK at h;split at h
 ·rename_i hw;simpa [bT,lq]using hw
 ·cases h
theorem IE {f:iL} {n:Int} (h:gy f n=0):bQ n f.code.length:=by
 unfold gy at h;split at h
 ·rename_i hw;simpa [bT,bQ]using hw
 ·cases h
theorem Vh {p:ay} {n:Int} (h:dn p n=0):bQ n p.vars.length:=by
 unfold dn at h;split at h
 ·rename_i hw;simpa [bT,bQ]using hw
 ·cases h
theorem Xg {f:iL} {n k:Int} (h:nZ f n k=0):(k=0∧n=0)∨k<0∨(0<k∧0≤n∧n≤IntKind.i64.wrap (f.regs - k)):=by
 unfold nZ at h;split at h
 ·cases h
 ·rename_i hz;simp at hz;omega
theorem jW {p:ay} {f:iL} {x:jR} {c n:Int} (h:aW p f c n x=0) :
 (c=111→n = -1∨lq f n)∧(c=114→lq f n)∧(c=119→lq f n)∧(c=118→bQ n p.vars.length)∧(c=97→bQ n p.vars.length)∧(c=108→0≤n∧n<p.locks)∧(c=99→bQ n p.chans.length) ∧
 (c=115→bQ n f.sels.length)∧(c=102→bQ n p.funcs.length)∧(c=116→bQ n f.code.length)∧(c=112→nZ f n (p.funcs.getD x.b.toNat mD).params=0):=by
 refine ⟨?_,?_,?_,?_,?_,?_,?_,?_,?_,?_,?_⟩ <;> (intro e;subst e;simp [aW]at h)
 ·by_cases e:n = -1
  ·exact .inl e
  ·exact .inr (D5 (by simpa [e]using h))
 ·exact D5 h
 ·exact D5 h
 ·exact oO h
 ·exact Vh h
 ·exact oO h
 ·exact oO h
 ·exact oO h
 ·exact oO h
 ·exact IE h
 ·exact h
theorem Za {p:ay} {f:iL} {x:jR} (hf:∀ g∈p.funcs,0≤g.params) (h:iH p f x=0):MK p f x:=by
 have hne:dF x.op≠[]:=by
  intro e;simp [iH,e]at h
 have he:qU p f x 4=0:=by
  unfold iH at h;rw [if_neg hne]at h;split at h
  ·cases h
  ·exact h
 have hl:∀ k,k<4→yL x.op k=(((dF x.op)[k]?.getD 0).toNat:Nat):=fun k _=>VP _ _;have H:∀ k,k<4 → ∀ c:Int,(((dF x.op)[k]?.getD 0).toNat:Nat)=c→aW p f c ((opL x).getD k 0) x=0:=fun k hk c hc=>by
  have:=Dp he k hk
  rwa [hl k hk,hc]at this
 have hop:(1≤x.op∧x.op≤36)∨(40≤x.op∧x.op≤45)∨(50≤x.op∧x.op≤65):=by
  revert hne;refine y8 (Q:=fun l=>l≠[]→_) x.op ?_ ?_ ?_ ?_ ?_ ?_ ?_ ?_ ?_ ?_ ?_ ?_ ?_ ?_ ?_ ?_ ?_ ?_ ?_ ?_ ?_
  all_goals first | (intro h1 _;omega) | (intro _ h1;exact absurd rfl h1)
 have h0:=fun c hc=>H 0 (by decide) c hc;have h1:=fun c hc=>H 1 (by decide) c hc
 have h2:=fun c hc=>H 2 (by decide) c hc;have h3:=fun c hc=>H 3 (by decide) c hc
 have e0:(opL x).getD 0 0=x.a:=rfl;have e1:(opL x).getD 1 0=x.b:=rfl
 have e2:(opL x).getD 2 0=x.c:=rfl;have e3:(opL x).getD 3 0=x.n:=rfl
 rw [e0]at h0;rw [e1]at h1;rw [e2]at h2;rw [e3]at h3;have F1:1≤x.op∧x.op≤15→dF x.op=[114,114,45,45]:=fun h=>by rw [dF,if_pos h]
 have F2:16≤x.op∧x.op≤36→dF x.op=[114,114,114,45]:=fun h=>by rw [dF,if_neg (by omega),if_pos h]
 have R:=fun n h=>(jW (p:=p) (f:=f) (x:=x) (c:=114) (n:=n) h).2.1 rfl;refine ⟨?_,?_,?_,?_,?_,?_,?_,?_,?_,?_,?_,?_,?_,?_,?_,?_,?_,?_⟩
 ·simp [su,EX];omega
 ·intro h;rcases Int.lt_or_le 15 x.op with h15 | h15
  ·have e:=F2 (by omega);exact ⟨R _ (h0 114 (by rw [e];rfl)),R _ (h1 114 (by rw [e];rfl))⟩
  ·have e:=F1 (by omega);exact ⟨R _ (h0 114 (by rw [e];rfl)),R _ (h1 114 (by rw [e];rfl))⟩
 ·intro h;have e:=F2 h
  exact R _ (h2 114 (by rw [e];rfl))
 ·rintro (h | h | h | h | h) <;> exact R _ (h0 114 (by rw [h];rfl))
 ·intro h;exact ⟨R _ (h0 114 (by rw [h];rfl)),R _ (h1 114 (by rw [h];rfl))⟩
 ·intro h;exact (jW (h0 116 (by rw [h];rfl))).2.2.2.2.2.2.2.2.2.1 rfl
 ·intro h;exact (jW (h1 116 (by rw [h];rfl))).2.2.2.2.2.2.2.2.2.1 rfl
 ·intro h;exact ⟨R _ (h0 114 (by rw [h];rfl)),(jW (h1 118 (by rw [h];rfl))).2.2.2.1 rfl⟩
 ·rintro (h | h)
  ·exact ⟨R _ (h1 114 (by rw [h];rfl)),(jW (h0 118 (by rw [h];rfl))).2.2.2.1 rfl⟩
  ·exact ⟨R _ (h1 114 (by rw [h];rfl)),(jW (h0 97 (by rw [h];rfl))).2.2.2.2.1 rfl⟩
 ·intro h;exact ⟨(jW (h0 111 (by rw [h];rfl))).1 rfl,(jW (h1 97 (by rw [h];rfl))).2.2.2.2.1 rfl,R _ (h2 114 (by rw [h];rfl))⟩
 ·intro h;exact ⟨R _ (h0 114 (by rw [h];rfl)),(jW (h1 97 (by rw [h];rfl))).2.2.2.2.1 rfl,R _ (h2 114 (by rw [h];rfl)),(jW (h3 119 (by rw [h];rfl))).2.2.1 rfl⟩
 ·rintro (h | h) <;> exact (jW (h0 108 (by rw [h];rfl))).2.2.2.2.2.1 rfl
 ·intro h;exact ⟨R _ (h0 114 (by rw [h];rfl)),(jW (h1 108 (by rw [h];rfl))).2.2.2.2.2.1 rfl⟩
 ·intro h;exact ⟨(jW (h0 99 (by rw [h];rfl))).2.2.2.2.2.2.1 rfl,R _ (h1 114 (by rw [h];rfl))⟩
 ·intro h;exact ⟨(jW (h0 111 (by rw [h];rfl))).1 rfl,(jW (h1 99 (by rw [h];rfl))).2.2.2.2.2.2.1 rfl,(jW (h2 111 (by rw [h];rfl))).1 rfl⟩
 ·intro h;exact (jW (h0 99 (by rw [h];rfl))).2.2.2.2.2.2.1 rfl
 ·intro h;exact (jW (h0 115 (by rw [h];rfl))).2.2.2.2.2.2.2.1 rfl
 ·intro h;have hb:=(jW (h1 102 (by rw [h];rfl))).2.2.2.2.2.2.2.2.1 rfl
  refine ⟨(jW (h0 111 (by rw [h];rfl))).1 rfl,hb,fun g hg=>?_⟩;have hp:=Xg ((jW (h2 112 (by rw [h];rfl))).2.2.2.2.2.2.2.2.2.2 rfl)
  rw [← hg]at hp;have hm:g∈p.funcs:=by
   have hlt:x.b.toNat<p.funcs.length:=by have:=hb.1;have:=hb.2;omega
   rw [hg,List.getD_eq_getElem?_getD,List.getElem?_eq_getElem hlt];exact List.getElem_mem hlt
  have:=hf g hm;omega
structure Zx (p:ay) (f:iL) (c:Bz):Prop where
 chan:bQ c.chan p.chans.length
 reg:(c.send=true∨c.reg ≠ -1)→lq f c.reg
 cap:c.send=true→p.chans.getD c.chan.toNat 0≠0
 to:bQ c.to f.code.length
structure ZC (p:ay) (f:iL) (s:yP):Prop where
 len:1≤s.cases.length∧s.cases.length≤4
 case:∀ c∈s.cases,Zx p f c
 els:s.els ≠ -1→bQ s.els f.code.length
structure Dw (p:ay) (f:iL):Prop where
 regs:0≤f.regs∧f.regs≤8
 pars:0≤f.params∧f.params≤f.regs
 code:1≤f.code.length∧f.code.length≤64
 sels:f.sels.length≤4
 ins:∀ x∈f.code,MK p f x
 sel:∀ s∈f.sels,ZC p f s
 last:BH (yN f)=true
structure qV (p:ay):Prop where
 vars:p.vars.length≤8
 locks:0≤p.locks∧p.locks≤4
 chans:p.chans.length≤4
 caps:∀ n∈p.chans,0≤n∧n≤4
 funcs:1≤p.funcs.length∧p.funcs.length≤8
 fn:∀ f∈p.funcs,Dw p f
 main:(aY p 0).params=0
theorem Yg {p:ay} {f:iL} {c:Bz} (h:oW p f c=0):Zx p f c:=by
 unfold oW at h;split at h
 ·cases h
 ·rename_i h1;split at h
  ·cases h
  ·rename_i h2;split at h
   ·cases h
   ·rename_i h3;refine ⟨oO (by simpa using h1),fun hh=>?_,fun hs=>?_,IE h⟩
    ·refine D5 (Decidable.byContradiction fun hn=>h2 ⟨?_,hn⟩);rw [Bool.or_eq_true,bne_iff_ne];exact hh
    ·intro e;exact h3 (by rw [hs,e];rfl)
theorem YH {p:ay} {f:iL} {s:yP} (hb:N9 s=true) (h:MZ p f s=0):ZC p f s:=by
 unfold MZ at h;split at h
 ·rename_i hne;exact absurd h hne
 ·rename_i hz;refine ⟨by simp [N9]at hb;omega,fun c hc=>Yg (sK (by simpa using hz) c hc),fun hne=>?_⟩
  unfold Bd at h;rw [if_pos hne]at h;exact IE h
theorem jg {p:ay} (h:dQ p=true):qV p:=by
 have h0:(nU p).1=0:=by simpa [dQ]using h
 unfold nU at h0;split at h0
 ·rename_i hne;exact absurd h0 hne
 rename_i hw;have hw:jS p=0:=by simpa using hw
 unfold jS at hw;split at hw
 ·cases hw
 rename_i hs;have hsz:p.vars.length≤8∧(0≤p.locks∧p.locks≤4)∧p.chans.length≤4∧(1≤p.funcs.length∧p.funcs.length≤8):=by
  simp [szB]at hs;omega
 have hfz:=wo h0;have hform:∀ j,j<p.funcs.length→eH (aY p j) (j==0)=true∧qY p (aY p j)=0∧Jw (iH p (aY p j)) (aY p j).code=0∧BH (yN (aY p j))=true:=fun j hj=>by
  have:=hfz j (by omega) (by omega);unfold AA at this;split at this
  ·cases this
  ·rename_i h1;split at this
   ·rename_i h2;exact absurd this h2
   ·rename_i h2;split at this
    ·rename_i h3;exact absurd this h3
    ·rename_i h3;split at this
     ·rename_i h4;exact ⟨by simpa using h1,by simpa using h2,by simpa using h3,h4⟩
     ·cases this
 have hsf:∀ j,j<p.funcs.length→szF (aY p j) (j==0)=true∧uY (aY p j) (aY p j).sels.length=true:=fun j hj=>by
  have:=(hform j hj).1;simpa [eH]using this
 have hidx:∀ f∈p.funcs,∃ j,j<p.funcs.length∧f=aY p j:=fun f hf=>by
  obtain ⟨j,hj,e⟩:=List.getElem_of_mem hf;exact ⟨j,hj,by simp [aY,hj,e]⟩
 have hpar:∀ g∈p.funcs,0≤g.params:=fun g hg=>by
  obtain ⟨j,hj,rfl⟩:=hidx g hg;have:=oK.1 (hsf j hj).1
  omega
 refine ⟨hsz.1,hsz.2.1,hsz.2.2.1,fun n hn=>?_,hsz.2.2.2,fun f hf=>?_,?_⟩
 ·have:=sK hw n hn;unfold Ia at this;split at this
  ·cases this
  ·rename_i h1;simp at h1;omega
 ·obtain ⟨j,hj,rfl⟩:=hidx f hf;have h1:=oK.1 (hsf j hj).1
  have h2:=hform j hj;refine ⟨by omega,by omega,by omega,by omega,fun x hx=>Za hpar (sK h2.2.2.1 x hx),fun s hs=>?_,h2.2.2.2⟩;obtain ⟨k,hk,e⟩:=List.getElem_of_mem hs;have h3:=yS (hsf j hj).2 k hk
  have e':(aY p j).sels.getD k wL=s:=by rw [List.getD_eq_getElem?_getD,List.getElem?_eq_getElem hk,e];rfl
  rw [e']at h3;exact YH h3 (sK h2.2.1 s hs)
 ·have:=oK.1 (hsf 0 (by omega)).1;have h5:¬ ((0==0)=true∧(aY p 0).params>0):=this.2.2.2.2.1
  have h6:¬ (aY p 0).params>0:=fun h=>h5 ⟨rfl,h⟩;omega
section
variable {R:Option Nat→Bool→Prop} {P:Program} {T:Nat→TI} {N nt nb:Nat} {post:Post}
theorem Q8 {m:Id→Option Ob} {F:Id→Nat} {id:Id} {cap:Option Nat}:Conv m F T .nils (.own id 0 0 0 cap):=Or.inr ⟨rfl,.inl ⟨_,_,rfl⟩⟩
theorem WP.nilreg (hT:TOK P T N) (hE:Dx P T N) {id:Nat} {ops:Array Oper} {o:Oper} {l:List Oper} {t t1:Nat→Option (D×AV)} {m m1:Id→Option Ob} {gs gs':List CG} {c:Option Prop} {ty k3 k4 yt:Nat} {e len el:Nat} {f:Bool} {g:Nat→AV}
 (hl:ops.toList=l++[o]) (h:evF T (AC P T N) nt ops.toList l t m gs none=some ⟨⟨t1,m1⟩,gs',c⟩) (hc:ak c)
 (ho:o.op = .binOp .eql ty (.tmp k3) (.const (.slice none 0 0)) yt) (hd:o.dst=some k4) (hg:o.guard=none) (hnt:EG nt (some k4)=true) (ht:t1 k3=some (.always,.row e f len g)) (hk:(T ty).kind = .slice el)
 (hp:∀ b,post .normal ⟨OI t1 k4 (some (.always,.v (.bool b))),m1⟩):WP R P T N nt nb (.region id ops false) post ⟨t,m⟩:=fun en h1 h2 I ρ a w hs rd hr n=>by
 subst h1;rw [LW]at h;have hgd:∀ st,mW ops.toList st o=some .always:=fun st=>by unfold mW;rw [hg]
 refine wpIn_region_list ?_;have hh:wpListIn (mG rd) n P ops (fun ex a' w' => ∃ st' I' ρ',post ex st'∧gG T N en I' ρ' st' a' w') (l++[o]) a w:=by
  refine (X0 (l2:=[o]) hT hE rd n l ⟨⟨t,m⟩,gs,none⟩ ⟨⟨t1,m1⟩,gs',c⟩ hs h hc (fun I' ρ' a' w' hs'=>?_)).2;have hwant:=qF hs' (hgd ⟨t1,m1⟩)
  unfold wpListIn;rw [if_pos (hwant.1 trivial)];refine ⟨fun _ _=>trivial,?_⟩;rw [Oper.semAt_eq _ _ _ (by simp [ho])];have hrow:=((hs'.tm k3 _ _ ht).1 trivial).rep1 (fun _=>by simp)
  have hu:=(hT.sli hk).2;have key:∀ (v:Value) (sp:Option Addr) (ln cp:Nat),v = .slice sp ln cp→a'.eval (.tmp k3)=v → ∃ b,(do eqGuard .eql ty (.tmp k3) (.const (.slice none 0 0)) (a'.eval (.tmp k3)) (a'.eval (.const (.slice none 0 0)));binOp .eql ty (a'.eval (.tmp k3)) (a'.eval (.const (.slice none 0 0))):Sem Value).run P w' = .ok (.bool b) w':=by
   rintro v sp ln cp rfl ev;refine ⟨sp.isNone&&true,?_⟩;have e2:a'.eval (.const (.slice none 0 0)) = .slice none 0 0:=rfl
   rw [ev,e2];have hgg:=dU (P:=P) (a := .slice sp ln cp) (b := .slice none 0 0) .eql ty (.tmp k3) (.const (.slice none 0 0)) (by simp) (by simp) w'
   simp only [Sem.run_bind,hgg,Result.andThen_ok,binOp];rw [dY hu w' sp none ln cp 0 0 (.inr rfl)];rfl
  have hev:∃ b,(do eqGuard .eql ty (.tmp k3) (.const (.slice none 0 0)) (a'.eval (.tmp k3)) (a'.eval (.const (.slice none 0 0)));binOp .eql ty (a'.eval (.tmp k3)) (a'.eval (.const (.slice none 0 0))):Sem Value).run P w' = .ok (.bool b) w':=by
   rcases Rep.row_inv hrow with ⟨⟨ad,ex⟩,_,_⟩ | ⟨b,off,cap,segs,_,_,_,_,_,_,_,_,ex⟩
   ·exact key _ _ _ _ ex rfl
   ·exact key _ _ _ _ ex rfl
  obtain ⟨b,hb⟩:=hev;have hrun:(execOp a'.eval o).run P w' = .ok (.value (.bool b)) w':=by
   unfold execOp;rw [ho];exact dA hb
  rw [hrun];refine ⟨_,I',ρ',hp b,?_⟩;have:=lK (o:=o) (G := .always) (r:=⟨.v (.bool b),[],[],none⟩) (v := .bool b) hs' (by rw [hd];exact hnt) (.inr ⟨fun _=>fA rfl,fun h=>absurd trivial h⟩) (Ev.refl _ _ _) hs'.wr
  have e3:(St.after ⟨t1,m1⟩ o .always ⟨.v (.bool b),[],[],none⟩)=⟨OI t1 k4 (some (.always,.v (.bool b))),m1⟩:=by
   simp only [St.after,St.put,hd,kT]
  rw [e3]at this;exact this
 rw [← hl]at hh;exact hh
theorem AC.ent {f:FuncId} {args:List AV} {B:List Ob} {r r2:AV} {B' B2:List Ob} (h:AC P T N f args B r B') (hent:Ent T N 1 B.length (aK [(0,r)] (mkB 0 B')) (aK [(0,r2)] (mkB 0 B2))):AC P T N f args B r2 B2:=by
 refine ⟨h.1,fun I ρ w vs hl hvs hw=>(h.2 I ρ w vs hl hvs hw).mono ?_⟩;rintro e w' ⟨v,I',ρ',he,h1,h2,h3⟩;have hm:∀ B:List Ob,(aK [(0,r)] (mkB 0 B)).m=ofB B:=fun B=>Eo B
 have hm2:∀ B:List Ob,(aK [(0,r2)] (mkB 0 B)).m=ofB B:=fun B=>Eo B;have hst:gG T N ⟨I,ρ,w,1,B.length,false⟩ I' ρ' (aK [(0,r)] (mkB 0 B')) { tmps := #[v],defers:=[] } w':=by
  refine ⟨by rw [hm];exact h3,fun t d x ht=>?_,rfl,⟨Marks.nil,fun _=>rfl⟩,h1,fun id p hp=>?_⟩
  ·simp only [aK,Option.map_eq_some_iff,Prod.mk.injEq]at ht;obtain ⟨x0,k1,rfl,rfl⟩:=ht;simp only [lZ]at k1;cases hb:Nat.beq t 0 with
   | false=>rw [hb]at k1;cases k1
   | true =>
    rw [hb]at k1;cases k1;obtain rfl:=Nat.eq_of_beq_eq_true hb;exact ⟨fun _=>h2,fun h=>absurd trivial h⟩
  ·have:=hw.dom id p hp;cases id with
   | s a b=>exact absurd rfl this
   | b j =>
    refine ⟨j,?_,rfl⟩;cases hj:B[j]? with
    | none=>simp [ofB,hj]at this
    | some o=>exact (List.getElem?_eq_some_iff.1 hj).1
 obtain ⟨I2,ρ2,hs2⟩:=hent _ rfl rfl I' ρ' _ w' hst;refine ⟨v,I2,ρ2,he,hs2.ev,?_,?_⟩
 ·exact (hs2.tm 0 .always r2 rfl).1 trivial
 ·have:=hs2.wr
  rwa [hm2]at this
end
section
variable {T:Nat→TI}
theorem sF {st:St} {id:Id} {B:Blk} (h:st.m id=some (.cells B):=by rfl) (hk:1≤B.n:=by exact Nat.le_refl _):∃ B,st.m id=some (.cells B)∧1≤B.n:=⟨B,h,hk⟩
theorem rpv {m:Id→Option Ob} {F:Id→Nat} {id:Id} {n i:Nat} {p:List Nat} {t:Nat} {y:AV} {B:Blk} (hm:m id=some (.cells B):=by rfl) (hn:B.n=n:=by rfl) (hF:i<F id:=by decide) (ht:aT T B.ty p=some t:=by rfl) (hy:(B.get i).at p=y:=by rfl) (hno:eG y=true:=by rfl):Conv m F T (.ptr id n i p) (.rp t y):=aZ hm hn hF ht hy hno
theorem rq {Q:Prop} (h:Q:=by refine ⟨rfl,_,rfl,?_⟩;exact rpv):Q:=h
theorem q0 {Q:Nat→Prop} (h:Q 0):∀ q,q<1→Q q:=fun q hq=>by obtain rfl:q=0:=Nat.lt_one_iff.1 hq;exact h
end
def qN (w o:Int):Bool:=decide ((w=1∧o=44)∨(w=2∧(o=19∨o=20))∨(w=3∧25≤o∧o≤27)∨(w=4∧(o=58∨o=61))∨(w=5∧o=60)∨(w=6∧o=56)∨(w=7∧o=63)∨(w=8∧o=62))
theorem Y7 (w o:Int):AC Tryz.prog T bn 237 [.int w,.int o] [] (.bool (qN w o)) []:=by
 refine aA hT Tryz.func237 rfl rfl (Nat.le_of_ble_eq_true rfl) ?_;refine sg rfl ?_;refine sq (sq (rg [] rfl ?_));refine bk (sq (rg [] rfl ?_));refine cd rfl (fun h2=>?_) (fun h2=>?_)
 ·refine sg rfl ?_;refine WP.ret ?_;change Fin ..;refine fin1 hT (by rfl) ?_
  try simp only [bor,band]
  rw [Bool.eq_iff_iff];simp [qN]at *
  omega
 ·refine sg rfl ?_;refine cd rfl (fun h4=>?_) (fun h4=>?_)
  ·refine sg rfl ?_;refine WP.ret ?_;change Fin ..;refine fin1 hT (by rfl) ?_
   try simp only [bor,band]
   rw [Bool.eq_iff_iff];simp [qN]at *
   omega
  ·refine sg rfl ?_;refine cd rfl (fun h6=>?_) (fun h6=>?_)
   ·refine sg rfl ?_;refine WP.ret ?_;change Fin ..;refine fin1 hT (by rfl) ?_
    try simp only [bor,band]
    rw [Bool.eq_iff_iff];simp [qN]at *
    omega
   ·refine sg rfl ?_;refine cd rfl (fun h8=>?_) (fun h8=>?_)
    ·refine sg rfl ?_;refine WP.ret ?_;change Fin ..;refine fin1 hT (by rfl) ?_
     try simp only [bor,band]
     rw [Bool.eq_iff_iff];simp [qN]at *
     omega
    ·refine sg rfl ?_;refine cd rfl (fun h10=>?_) (fun h10=>?_)
     ·refine sg rfl ?_;refine WP.ret ?_;change Fin ..;refine fin1 hT (by rfl) ?_
      try simp only [bor,band]
      rw [Bool.eq_iff_iff];simp [qN]at *
      omega
     ·refine sg rfl ?_;refine cd rfl (fun h12=>?_) (fun h12=>?_)
      ·refine sg rfl ?_;refine WP.ret ?_;change Fin ..;refine fin1 hT (by rfl) ?_
       try simp only [bor,band]
       rw [Bool.eq_iff_iff];simp [qN]at *
       omega
      ·refine sg rfl ?_;refine cd rfl (fun h14=>?_) (fun h14=>?_)
       ·refine sg rfl ?_;refine WP.ret ?_;change Fin ..;refine fin1 hT (by rfl) ?_
        try simp only [bor,band]
        rw [Bool.eq_iff_iff];simp [qN]at *
        omega
       ·refine sg rfl ?_;refine cd rfl (fun h16=>?_) (fun h16=>?_)
        ·refine sg rfl ?_;refine WP.ret ?_;change Fin ..;refine fin1 hT (by rfl) ?_
         try simp only [bor,band]
         rw [Bool.eq_iff_iff];simp [qN]at *
         omega
        ·refine sk (sq (rg [] rfl ?_));refine WP.ret ?_;change Fin ..;refine fin1 hT (by rfl) ?_
         try simp only [bor,band]
         rw [Bool.eq_iff_iff];simp [qN]at *
         omega
theorem NQ (w o:Int):AC Tryz.prog T bn 200 [.int o,.int w] [] (.bool (qN w o)) []:=by
 refine aA hT Tryz.func200 rfl rfl (Nat.le_of_ble_eq_true rfl) ?_;refine sg rfl ?_;refine sq (sq (rg [] rfl ?_));refine bk (sq (rg [] rfl ?_));refine cd rfl (fun h2=>?_) (fun h2=>?_)
 ·refine sg rfl ?_;refine WP.ret ?_;change Fin ..;refine fin1 hT (by rfl) ?_
  try simp only [bor,band]
  rw [Bool.eq_iff_iff];simp [qN]at *
  omega
 ·refine sg rfl ?_;refine cd rfl (fun h4=>?_) (fun h4=>?_)
  ·refine sg rfl ?_;refine WP.ret ?_;change Fin ..;refine fin1 hT (by rfl) ?_
   try simp only [bor,band]
   rw [Bool.eq_iff_iff];simp [qN]at *
   omega
  ·refine sg rfl ?_;refine cd rfl (fun h6=>?_) (fun h6=>?_)
   ·refine sg rfl ?_;refine WP.ret ?_;change Fin ..;refine fin1 hT (by rfl) ?_
    try simp only [bor,band]
    rw [Bool.eq_iff_iff];simp [qN]at *
    omega
   ·refine sg rfl ?_;refine cd rfl (fun h8=>?_) (fun h8=>?_)
    ·refine sg rfl ?_;refine WP.ret ?_;change Fin ..;refine fin1 hT (by rfl) ?_
     try simp only [bor,band]
     rw [Bool.eq_iff_iff];simp [qN]at *
     omega
    ·refine sg rfl ?_;refine cd rfl (fun h10=>?_) (fun h10=>?_)
     ·refine sg rfl ?_;refine WP.ret ?_;change Fin ..;refine fin1 hT (by rfl) ?_
      try simp only [bor,band]
      rw [Bool.eq_iff_iff];simp [qN]at *
      omega
     ·refine sg rfl ?_;refine cd rfl (fun h12=>?_) (fun h12=>?_)
      ·refine sg rfl ?_;refine WP.ret ?_;change Fin ..;refine fin1 hT (by rfl) ?_
       try simp only [bor,band]
       rw [Bool.eq_iff_iff];simp [qN]at *
       omega
      ·refine sg rfl ?_;refine cd rfl (fun h14=>?_) (fun h14=>?_)
       ·refine sg rfl ?_;refine WP.ret ?_;change Fin ..;refine fin1 hT (by rfl) ?_
        try simp only [bor,band]
        rw [Bool.eq_iff_iff];simp [qN]at *
        omega
       ·refine sg rfl ?_;refine cd rfl (fun h16=>?_) (fun h16=>?_)
        ·refine sg rfl ?_;refine WP.ret ?_;change Fin ..;refine fin1 hT (by rfl) ?_
         try simp only [bor,band]
         rw [Bool.eq_iff_iff];simp [qN]at *
         omega
        ·refine sk (sq (rg [] rfl ?_));refine WP.ret ?_;change Fin ..;refine fin1 hT (by rfl) ?_
         try simp only [bor,band]
         rw [Bool.eq_iff_iff];simp [qN]at *
         omega
theorem FX (op:Int):AC Tryz.prog T bn 204 [.int op] [] (.bool (su op)) []:=by
 refine aA hT Tryz.func204 rfl rfl (Nat.le_of_ble_eq_true rfl) ?_;refine sg rfl ?_;refine sg rfl ?_;refine WP.ret ?_;change Fin ..;exact fin1 hT (by rfl) (by rw [band,band,bor];rfl)
theorem Jb (op:Int):AC Tryz.prog T bn 235 [.int op] [] (.bool (EX op)) []:=by
 refine aA hT Tryz.func235 rfl rfl (Nat.le_of_ble_eq_true rfl) ?_;refine sg rfl ?_;refine sg rfl ?_;refine WP.ret ?_;change Fin ..;exact fin1 hT (by rfl) (by rw [band];rfl)
theorem zG (p:ay):AC Tryz.prog T bn 141 [aj p] [] (.bool (dQ p)) []:=by
 refine aA hT Tryz.func141 rfl rfl (Nat.le_of_ble_eq_true rfl) ?_;refine sg rfl ?_;refine sq (rgs [CG.pure (yE p)] rfl ?_ ?_)
 ·have hq:=zZ p;exact au
 refine sg rfl ?_;exact WP.ret (fin1 hT rfl rfl)
abbrev dN (p:ay) (g:PGo):iL:=p.funcs.getD g.func.toNat mD
abbrev insOf (p:ay) (g:PGo):jR:=(dN p g).code.getD g.pc.toNat qR
def uO (p:ay) (g:PGo):Prop:=(1≤g.status∧g.status≤5)∧bQ g.func p.funcs.length∧bQ g.pc (dN p g).code.length ∧
 (∀ k:Nat,k<8→g.regs.getD k 0=0∨((k:Int)<(dN p g).regs∧g.status≠3∧g.status≠4)) ∧
 (g.status=4→qN g.why (insOf p g).op=true)∧(g.status≠4→g.why=0)∧(g.status=3→(insOf p g).op=45)∧(g.status=5→su (insOf p g).op=true)
instance (n:Int) (m:Nat):Decidable (bQ n m):=by unfold bQ;infer_instance
instance (p:ay) (g:PGo):Decidable (uO p g):=by unfold uO;infer_instance
theorem XV (p:ay) (g:PGo):AC Tryz.prog T bn 189 [aj p,bP g] [] (.bool (decide (uO p g))) []:=by
 refine aA hT Tryz.func189 rfl rfl (Nat.le_of_ble_eq_true rfl) ?_;refine sg rfl ?_;refine sq (sq ?_);refine WP.ent (st':=aK [(2,.rp 26 (aj p)),(3,.rp 59 (bP g))] []) (em [(.s 2 0,1),(.s 3 0,1)] ⟨sF,sF,tt⟩ ⟨rq,rq,tt⟩ trivial) ?_;refine rg [] rfl ?_;refine cd rfl (fun h1=>?_) (fun h1=>?_)
 ·simp only [bor]at h1;refine sg rfl ?_;refine WP.ret ?_;change Fin ..;refine fin1 hT (by rfl) (Eq.symm (decide_eq_false fun h=>?_));have h2:=h.1;have h3:=h.2.1;unfold bQ at h3
  simp [-List.getD_eq_getElem?_getD]at h1;omega
 ·simp only [bor]at h1;have hh:(1≤g.status∧g.status≤5)∧bQ g.func p.funcs.length:=by unfold bQ;simp [-List.getD_eq_getElem?_getD]at h1;omega
  refine sk (sq (rgs [] rfl ?_ ?_))
  ·have:=hh.2;unfold bQ at this;simp [-List.getD_eq_getElem?_getD,ak,under];omega
  refine sq (sq ?_);refine WP.ent (st':=aK [(5,.rp 100 (dI (dN p g))),(2,.rp 26 (aj p)),(3,.rp 59 (bP g))] []) (em [(.s 5 0,1)] ⟨sF,tt⟩ ⟨rq,cq,cq,tt⟩ trivial) ?_;refine rg [] rfl ?_;refine cd rfl (fun h4=>?_) (fun h4=>?_)
  ·simp only [bor]at h4;refine sg rfl ?_;refine WP.ret ?_;change Fin ..;refine fin1 hT (by rfl) (Eq.symm (decide_eq_false fun h=>?_));have h3:=h.2.2.1;unfold bQ at h3
   simp [-List.getD_eq_getElem?_getD]at h4;omega
  ·simp only [bor]at h4;have hp:bQ g.pc (dN p g).code.length:=by unfold bQ;simp [-List.getD_eq_getElem?_getD]at h4;omega
   refine sk (sq (rg [] rfl ?_));refine sq (sq (rg [] rfl ?_));refine bk ?_;refine WP.loop (α:=Nat) (fun i=>aK [(3,.rp 59 (bP g)),(5,.rp 100 (dI (dN p g))),(6,.bool (g.status==3||g.status==4)),(57,o7 52 8 .i64 g.regs),(58,.int i)] []) (fun i=>i≤8 ∧ ∀ k:Nat,k<i→g.regs.getD k 0=0∨((k:Int)<(dN p g).regs∧g.status≠3∧g.status≠4)) (fun i=>8 - i) ?_ ?_
   ·refine ⟨0,?_,?_⟩
    ·exact ⟨Nat.zero_le _,fun j hj=>by omega⟩
    ·refine em [] trivial ⟨cq,cq,⟨rfl,_,rfl,ah (by rw [bor])⟩,cq,cq,tt⟩ trivial
   ·rintro i ⟨hi,hn⟩;refine sg rfl ?_;refine sq ?_;refine cd rfl (fun h8=>?_) (fun h8=>?_)
    ·have hil:i<8:=by simp [-List.getD_eq_getElem?_getD]at h8;omega
     refine sk (sq (bk (sq (rgs [] rfl ?_ ?_))))
     ·simp [-List.getD_eq_getElem?_getD,ak,under];omega
     refine sg rfl ?_;refine cd rfl (fun h10=>?_) (fun h10=>?_)
     ·simp only [bor,band]at h10;refine sg rfl ?_;refine WP.ret ?_;change Fin ..;refine fin1 hT (by rfl) (Eq.symm (decide_eq_false fun h=>?_));have h3:=h.2.2.2.1 i hil
      simp [-List.getD_eq_getElem?_getD]at h10;rcases h3 with h3 | h3
      ·exact h10.1 (by simpa using h3)
      ·have:=h10.2;grind
     ·simp only [bor,band]at h10;refine sk (rg [] rfl ?_);refine ⟨i+1,?_,?_,?_⟩
      ·exact ⟨hil,all_succ hn (by simp [-List.getD_eq_getElem?_getD]at h10;by_cases e:g.regs.getD i 0=0;exact .inl e;exact .inr (by have:=h10 (by simpa using e);grind))⟩
      ·refine em [] trivial ⟨cq,cq,cq,cq,cq,tt⟩ trivial
      ·(try simp only []);first | omega | grind
    ·have hil:i=8:=by simp [-List.getD_eq_getElem?_getD]at h8;omega
     subst hil;have fin:∀ b:Bool,(b=true↔(g.status=4→qN g.why (insOf p g).op=true)∧(g.status≠4→g.why=0)∧(g.status=3→(insOf p g).op=45)∧(g.status=5→su (insOf p g).op=true))→b=decide (uO p g):=fun b hb=>by
      rw [Bool.eq_iff_iff,hb,decide_eq_true_iff];exact ⟨fun h=>⟨hh.1,hh.2,hp,hn,h⟩,fun h=>h.2.2.2.2⟩
     refine xt (sq (rgs [] rfl ?_ ?_))
     ·unfold bQ at hp;simp [-List.getD_eq_getElem?_getD,ak,under];omega
     refine sq (sq (rg [] rfl ?_));refine bk (sq (rg [] rfl ?_));refine cd rfl (fun h15=>?_) (fun h15=>?_)
     ·have e4:g.status=4:=by simpa using h15
      refine sq (rgs [CG.pure (.bool (qN g.why (insOf p g).op))] rfl ?_ ?_)
      ·exact Y7 _ _
      refine WP.ret ?_;change Fin ..;refine fin1 hT (by rfl) (fin _ ?_);simp [e4]
     ·have e4:g.status≠4:=by simpa using h15
      refine sg rfl ?_;refine cd rfl (fun h17=>?_) (fun h17=>?_)
      ·have e3:g.status=3:=by simpa using h17
       refine sg rfl ?_;refine WP.ret ?_;change Fin ..;refine fin1 hT (by rfl) (fin _ ?_);simp only [band];simp [e3]
      ·have e3:g.status≠3:=by simpa using h17
       refine sg rfl ?_;refine cd rfl (fun h19=>?_) (fun h19=>?_)
       ·have e5:g.status=5:=by simpa using h19
        refine sq (rgs [CG.pure (.bool (su (insOf p g).op))] rfl ?_ ?_)
        ·have hq:=FX (insOf p g).op;exact au
        refine WP.ret ?_;change Fin ..;refine fin1 hT (by rfl) (fin _ ?_);simp only [band];simp [e5]
       ·have e5:g.status≠5:=by simpa using h19
        refine sk (sq (rg [] rfl ?_));refine WP.ret ?_;change Fin ..;refine fin1 hT (by rfl) (fin _ ?_);simp [e4,e3,e5]
def qP (p:ay) (s:PSt) (g c:Int):Prop:=0≤g∧g<s.count∧(goI s g).status=2∧(insOf p (goI s g)).op=58∧(insOf p (goI s g)).a=c
instance (p:ay) (s:PSt) (g c:Int):Decidable (qP p s g c):=by unfold qP;infer_instance
def Zb (p:ay) (s:PSt):Prop:=s.count≤6 ∧ ∀ k:Nat,(k:Int)<s.count→uO p (s.gos.getD k go0)
theorem RV (p:ay) (s:PSt) (g c:Int) (hg:Zb p s):AC Tryz.prog T bn 238 [aj p,encS s,.int g,.int c] [] (.bool (decide (qP p s g c))) []:=by
 refine aA hT Tryz.func238 rfl rfl (Nat.le_of_ble_eq_true rfl) ?_;refine sg rfl ?_;refine sq (sq ?_);refine WP.ent (st':=aK [(4,.rp 26 (aj p)),(5,.rp 62 (encS s)),(2,.int g),(3,.int c)] []) (em [(.s 4 0,1),(.s 5 0,1)] ⟨sF,sF,tt⟩ ⟨rq,rq,cq,cq,tt⟩ trivial) ?_;refine rgs [] rfl ?_ ?_
 ·have:=hg.1;simp [-List.getD_eq_getElem?_getD,ak,under];omega
 refine cd rfl (fun h1=>?_) (fun h1=>?_)
 ·simp only [bor]at h1;refine sg rfl ?_;refine WP.ret ?_;change Fin ..;refine fin1 hT (by rfl) (Eq.symm (decide_eq_false fun h=>?_));obtain ⟨a,b,c,_⟩:=h;simp [-List.getD_eq_getElem?_getD]at h1;grind
 ·simp only [bor]at h1;have hh:0≤g∧g<s.count∧(goI s g).status=2:=by simp [-List.getD_eq_getElem?_getD]at h1;grind
  have hf:=hg.2 g.toNat (by omega);have h6:=hg.1
  refine sk (sq (drs [] rfl ?_ ?_))
  ·have h3:=hf.2.1;have h4:=hf.2.2.1;simp only [bQ,dN]at h3 h4
   simp [-List.getD_eq_getElem?_getD,ak,under];omega
  refine sg rfl ?_;refine WP.ret ?_;change Fin ..;refine fin1 hT (by rfl) ?_;simp only [band];rw [Bool.eq_iff_iff,decide_eq_true_iff];unfold qP;simp only [hh,true_and];rw [Bool.and_eq_true,beq_iff_eq,beq_iff_eq]
abbrev BO (p:ay) (c:Nat):Int:=p.chans.getD c 0
abbrev dB (s:PSt) (c:Nat):iM:=s.chans.getD c ch0
def vK (p:ay) (s:PSt) (c:Nat):Prop:=((0≤(dB s c).len∧(dB s c).len≤BO p c)∧(0≤(dB s c).offer∧(dB s c).offer≤3)∧((dB s c).offer≠0→BO p c=0)) ∧
 (∀ k:Nat,k<4→(dB s c).len≤k→(dB s c).buf.getD k 0=0)∧((dB s c).offer=0→(dB s c).frm=0∧(dB s c).val=0) ∧
 ((dB s c).offer=1→(dB s c).closed=false)∧((dB s c).offer=2∨(dB s c).offer=3→(dB s c).val=0)∧((dB s c).offer=3→(dB s c).closed=true)∧((dB s c).offer≠0→qP p s (dB s c).frm c)
instance (p:ay) (s:PSt) (c:Nat):Decidable (vK p s c):=by unfold vK;infer_instance
def BF (p:ay) (s:PSt) (g:Int):Nat→Nat
 | 0=>0
 | c+1=>BF p s g c+if c<p.chans.length∧(dB s c).offer≠0∧(dB s c).frm=g then 1 else 0
theorem Jo (p:ay) (s:PSt) (g:Int):∀ c,BF p s g c≤c
 | 0=>Nat.le_refl _
 | c+1=>by have:=Jo p s g c;rw [BF];split <;> omega
def Em (p:ay) (s:PSt) (c:Nat):List Int:=(List.range 6).map fun g=>(BF p s (g:Nat) c:Int)
theorem Ub (p:ay) (s:PSt) (c:Nat):(Em p s c).length=6:=by simp [Em]
theorem Jp (p:ay) (s:PSt) (c:Nat) {g:Nat} (h:g<6):(Em p s c).getD g 0=BF p s (g:Nat) c:=by simp [Em,h]
theorem F8 {p:ay} {s:PSt} {c:Nat} (h:¬ (c<p.chans.length∧(dB s c).offer≠0)):Em p s (c+1)=Em p s c:=by
 unfold Em;refine List.map_congr_left fun g hg=>?_;rw [BF,if_neg (fun e=>h ⟨e.1,e.2.1⟩),Nat.add_zero]
theorem Ua {p:ay} {s:PSt} {c:Nat} (h:c<p.chans.length∧(dB s c).offer≠0) (hf:0≤(dB s c).frm∧(dB s c).frm<6):(Em p s c).set (dB s c).frm.toNat (BF p s (dB s c).frm c+1)=Em p s (c+1):=by
 refine List.ext_getElem (by simp [Em]) fun i h1 h2=>?_;have hi:i<6:=by simpa [Em]using h2
 rw [List.getElem_set];split
 ·rename_i e;simp only [Em,List.getElem_map,List.getElem_range];have e2:((i:Nat):Int)=(dB s c).frm:=by omega
  rw [e2,BF,if_pos ⟨h.1,h.2,rfl⟩];omega
 ·rename_i e;simp only [Em,List.getElem_map,List.getElem_range];rw [BF,if_neg (fun k=>e (by rw [k.2.2];omega)),Nat.add_zero]
def RZ (p:ay) (s:PSt) (k:Nat):Prop:=p.vars.length≤k→s.vars.getD k 0=0
def Nu (p:ay) (s:PSt) (k:Nat):Prop:=0≤s.owner.getD k 0∧s.owner.getD k 0≤s.count∧(s.owner.getD k 0≠0→(k:Int)<p.locks)
def LD (p:ay) (s:PSt) (k:Nat):Prop:=((k:Int)<s.count→uO p (s.gos.getD k go0))∧(s.count≤k→s.gos.getD k go0=go0)
def Vb (p:ay) (s:PSt) (k:Nat):Prop:=(k<p.chans.length→vK p s k)∧(p.chans.length≤k→dB s k=ch0)
def Oi (p:ay) (s:PSt) (k:Nat):Prop:=(s.gos.getD k go0).status=2→BF p s k 4=1
instance (p:ay) (s:PSt) (k:Nat):Decidable (RZ p s k):=by unfold RZ;infer_instance
instance (p:ay) (s:PSt) (k:Nat):Decidable (Nu p s k):=by unfold Nu;infer_instance
instance (p:ay) (s:PSt) (k:Nat):Decidable (LD p s k):=by unfold LD;infer_instance
instance (p:ay) (s:PSt) (k:Nat):Decidable (Vb p s k):=by unfold Vb;infer_instance
instance (p:ay) (s:PSt) (k:Nat):Decidable (Oi p s k):=by unfold Oi;infer_instance
def dw (p:ay) (s:PSt):Prop:=dQ p=true∧(1≤s.count∧s.count≤6)∧(∀ k,k<8→RZ p s k)∧(∀ k,k<4→Nu p s k)∧(∀ k,k<6→LD p s k)∧(∀ k,k<4→Vb p s k)∧(∀ k,k<6→Oi p s k)
instance (p:ay) (s:PSt):Decidable (dw p s):=by unfold dw;infer_instance
theorem NU (p:ay) (s:PSt) (c:Nat) (hp:qV p) (hg:Zb p s) (hc:c<p.chans.length):AC Tryz.prog T bn 190 [aj p,encS s,.int c] [] (.bool (decide (vK p s c))) []:=by
 refine aA hT Tryz.func190 rfl rfl (Nat.le_of_ble_eq_true rfl) ?_;have hc4:c<4:=Nat.lt_of_lt_of_le hc hp.chans
 have hcap:0≤BO p c∧BO p c≤4:=hp.caps _ (by simp [BO,hc]);refine sg rfl ?_;refine sq ?_;refine WP.ent (st':=aK [(3,.rp 26 (aj p)),(4,.rp 62 (encS s)),(2,.int c)] []) (em [(.s 3 0,1),(.s 4 0,1)] ⟨sF,sF,tt⟩ ⟨rq,rq,cq,tt⟩ trivial) ?_;refine rgs [] rfl ?_ ?_
 ·simp [-List.getD_eq_getElem?_getD,ak,under];omega
 refine sq (sq ?_);refine WP.ent (st':=aK [(7,.rp 56 (dW (dB s c))),(2,.int c),(3,.rp 26 (aj p)),(4,.rp 62 (encS s))] []) (em [(.s 7 0,1)] ⟨sF,tt⟩ ⟨rq,cq,cq,cq,tt⟩ trivial) ?_;refine drs [] rfl ?_ ?_
 ·simp [-List.getD_eq_getElem?_getD,ak,under];omega
 refine cd rfl (fun h2=>?_) (fun h2=>?_)
 ·simp only [bor,band]at h2;refine sg rfl ?_;refine WP.ret ?_;change Fin ..;refine fin1 hT (by rfl) (Eq.symm (decide_eq_false fun h=>?_));have h3:=h.1
  simp [-List.getD_eq_getElem?_getD]at h2 h3;grind
 ·simp only [bor,band]at h2;have h1:(0≤(dB s c).len∧(dB s c).len≤BO p c)∧(0≤(dB s c).offer∧(dB s c).offer≤3)∧((dB s c).offer≠0→BO p c=0):=by
   simp [-List.getD_eq_getElem?_getD]at h2 ⊢;grind
  have hlen:0≤(dB s c).len∧(dB s c).len≤4:=by omega
  refine sk (sq (sq (rgs [] rfl ?_ ?_)))
  ·simp [-List.getD_eq_getElem?_getD,ak,under,wV,slB,capEq];omega
  refine bk ?_;refine WP.loop (α:=Nat) (fun i=>aK [(2,.int c),(3,.rp 26 (aj p)),(4,.rp 62 (encS s)),(7,.rp 56 (dW (dB s c))),(53,.row 2 true (4 - (dB s c).len).toNat (fun j => .int ((dB s c).buf.getD ((dB s c).len.toNat+j) 0))),(54,.int (4 - (dB s c).len).toNat),(55,.int i)] []) (fun i=>i≤(4 - (dB s c).len).toNat ∧ ∀ k:Nat,k<i→(dB s c).buf.getD ((dB s c).len.toNat+k) 0=0) (fun i=>8 - i) ?_ ?_
  ·refine ⟨0,?_,?_⟩
   ·exact ⟨Nat.zero_le _,fun j hj=>by omega⟩
   ·refine em [] trivial ⟨cq,cq,cq,cq,cq,cq,cq,tt⟩ trivial
  ·rintro i ⟨hi,hn⟩;refine sg rfl ?_;refine sq ?_;refine cd rfl (fun h5=>?_) (fun h5=>?_)
   ·have hil:i<(4 - (dB s c).len).toNat:=by simp [-List.getD_eq_getElem?_getD]at h5;omega
    refine sk (sq (bk (sq (rgs [] rfl ?_ ?_))))
    ·simp [-List.getD_eq_getElem?_getD,ak,under];omega
    refine sg rfl ?_;refine cd rfl (fun h7=>?_) (fun h7=>?_)
    ·refine sg rfl ?_;refine WP.ret ?_;change Fin ..;refine fin1 hT (by rfl) (Eq.symm (decide_eq_false fun h=>?_));have h3:=h.2.1 ((dB s c).len.toNat+i) (by omega) (by omega)
     simp [-List.getD_eq_getElem?_getD]at h7;exact h7 h3
    ·refine sk (rg [] rfl ?_);refine ⟨i+1,?_,?_,?_⟩
     ·exact ⟨hil,all_succ hn (by simp [-List.getD_eq_getElem?_getD]at h7;exact h7)⟩
     ·refine em [] trivial ⟨cq,cq,cq,cq,cq,cq,cq,tt⟩ trivial
     ·(try simp only []);first | omega | grind
   ·have hil:i=(4 - (dB s c).len).toNat:=by simp [-List.getD_eq_getElem?_getD]at h5;omega
    have hbuf:∀ k:Nat,k<4→(dB s c).len≤k→(dB s c).buf.getD k 0=0:=fun k h8 h9=>by
     have:=hn (k - (dB s c).len.toNat) (by omega)
     rwa [show (dB s c).len.toNat+(k - (dB s c).len.toNat)=k by omega]at this
    have fin:∀ b:Bool,(b=true↔((dB s c).offer=0→(dB s c).frm=0∧(dB s c).val=0) ∧
     ((dB s c).offer=1→(dB s c).closed=false)∧((dB s c).offer=2∨(dB s c).offer=3→(dB s c).val=0)∧((dB s c).offer=3→(dB s c).closed=true)∧((dB s c).offer≠0→qP p s (dB s c).frm c))→b=decide (vK p s c):=fun b hb=>by
     rw [Bool.eq_iff_iff,hb,decide_eq_true_iff];exact ⟨fun h=>⟨h1,hbuf,h⟩,fun h=>h.2.2⟩
    have hw:=RV p s (dB s c).frm c hg;refine xt (sq (sq (rg [] rfl ?_)));refine bk (sq (rg [] rfl ?_));refine cd rfl (fun h11=>?_) (fun h11=>?_)
    ·have e0:(dB s c).offer=0:=by simp [-List.getD_eq_getElem?_getD]at h11;exact h11
     refine sg rfl ?_;refine WP.ret ?_;change Fin ..;refine fin1 hT (by rfl) (fin _ ?_);simp only [band];simp [-List.getD_eq_getElem?_getD,e0]
    ·have e0:(dB s c).offer≠0:=by simp [-List.getD_eq_getElem?_getD]at h11;exact h11
     refine sg rfl ?_;refine cd rfl (fun h13=>?_) (fun h13=>?_)
     ·have e1:(dB s c).offer=1:=by simp [-List.getD_eq_getElem?_getD]at h13;exact h13
      refine sq (rgs [CG.pure (.bool (decide (qP p s (dB s c).frm c)))] rfl ?_ ?_)
      ·exact au
      refine WP.ret ?_;change Fin ..;refine fin1 hT (by rfl) (fin _ ?_);simp only [band];simp [-List.getD_eq_getElem?_getD,e1]
     ·have e1:(dB s c).offer≠1:=by simp [-List.getD_eq_getElem?_getD]at h13;exact h13
      refine sg rfl ?_;refine cd rfl (fun h15=>?_) (fun h15=>?_)
      ·have e2:(dB s c).offer=2:=by simp [-List.getD_eq_getElem?_getD]at h15;exact h15
       refine sq (rgs [CG.pure (.bool (decide (qP p s (dB s c).frm c)))] rfl ?_ ?_)
       ·exact au
       refine WP.ret ?_;change Fin ..;refine fin1 hT (by rfl) (fin _ ?_);simp only [band];simp [-List.getD_eq_getElem?_getD,e2]
      ·have e2:(dB s c).offer≠2:=by simp [-List.getD_eq_getElem?_getD]at h15;exact h15
       have e3:(dB s c).offer=3:=by omega
       refine sk (sq (rgs [CG.pure (.bool (decide (qP p s (dB s c).frm c)))] rfl ?_ ?_))
       ·exact au
       refine WP.ret ?_;change Fin ..;refine fin1 hT (by rfl) (fin _ ?_);simp only [band];simp [-List.getD_eq_getElem?_getD,e3];grind
theorem Gz (p:ay) (g:PGo) (hF:∀ f∈p.funcs,0≤f.regs):AC Tryz.prog T bn 136 [aj p,bP g] [] (.bool (decide (uO p g))) []:=by
 refine aA hT Tryz.func136 rfl rfl (Nat.le_of_ble_eq_true rfl) ?_;refine sg rfl ?_;refine sq (sq ?_);refine WP.ent (st':=aK [(2,.rp 26 (aj p)),(3,.rp 59 (bP g))] []) (em [(.s 2 0,1),(.s 3 0,1)] ⟨sF,sF,tt⟩ ⟨rq,rq,tt⟩ trivial) ?_;refine drs [] rfl ?_ ?_
 ·simp [-List.getD_eq_getElem?_getD,ak,under,bor];grind
 refine cd rfl (fun h1=>?_) (fun h1=>?_)
 ·simp only [bor]at h1;refine sg rfl ?_;refine WP.ret ?_;change Fin ..;refine fin1 hT (by rfl) (Eq.symm (decide_eq_false fun h=>?_));have h2:=h.1;have h3:=h.2.1;have h4:=h.2.2.1;simp only [bQ,dN]at h3 h4
  simp [-List.getD_eq_getElem?_getD]at h1;omega
 ·simp only [bor]at h1;have hh:((1≤g.status∧g.status≤5)∧bQ g.func p.funcs.length)∧bQ g.pc (dN p g).code.length:=by simp only [bQ,dN];simp [-List.getD_eq_getElem?_getD]at h1;omega
  have hb:=hh.1.2;have hbc:=hh.2
  simp only [bQ,dN]at hb hbc;have hr:0≤(dN p g).regs:=hF _ (by rw [dN,List.getD_eq_getElem?_getD,List.getElem?_eq_getElem (by omega)];exact List.getElem_mem _)
  refine sk (sq (rgs [] rfl ?_ ?_))
  ·simp [-List.getD_eq_getElem?_getD,ak,under];omega
  refine WP.seqJ (α:=Int) (fun n=>aK [(2,.rp 26 (aj p)),(3,.rp 59 (bP g)),(5,.int n)] []) (fun n=>n=if g.status=3∨g.status=4 then 0 else (dN p g).regs) ?_ ?_
  ·refine sg rfl ?_;refine cd rfl (fun h4=>?_) (fun h4=>?_)
   ·refine rg [] rfl ?_;refine ⟨0,?_,?_⟩
    ·rw [if_pos (by simp only [bor]at h4;simpa using h4)]
    ·refine em [] trivial ⟨cq,cq,cq,tt⟩ trivial
   ·refine sk ?_;refine ⟨(dN p g).regs,?_,?_⟩
    ·rw [if_neg (by simp only [bor]at h4;simpa using h4)]
    ·refine em [] trivial ⟨cq,cq,cq,tt⟩ trivial
  ·rintro n hn;refine sq (sq ?_);have hn0:0≤n:=by rw [hn];split <;> omega
   have hreg:∀ (x:Int) (k:Nat),(x=0∨((k:Int)<(dN p g).regs∧g.status≠3∧g.status≠4))↔(x=0∨(k:Int)<n):=fun x k=>by
    rw [hn];split <;> omega
   refine rg [] rfl ?_;refine bk ?_;refine WP.loop (α:=Nat) (fun i=>aK [(2,.rp 26 (aj p)),(3,.rp 59 (bP g)),(6,.int i)] []) (fun i=>n≤i ∧ ∀ k:Nat,k<i→k<8→(g.regs.getD k 0=0∨(k:Int)<n)) (fun i=>8 - i) ?_ ?_
   ·refine ⟨n.toNat,?_,?_⟩
    ·exact ⟨by omega,fun j hj _ => .inr (by omega)⟩
    ·refine em [] trivial ⟨cq,cq,⟨rfl,_,rfl,ah (by simp [-List.getD_eq_getElem?_getD];omega)⟩,tt⟩ trivial
   ·rintro i ⟨hi,hk⟩;refine sq (sq (rg [] rfl ?_));refine cd rfl (fun h7=>?_) (fun h7=>?_)
    ·have hil:i<8:=by simp [-List.getD_eq_getElem?_getD]at h7;omega
     refine sk (sq (bk (sq (rgs [] rfl ?_ ?_))))
     ·simp [-List.getD_eq_getElem?_getD,ak,under];omega
     refine cd rfl (fun h9=>?_) (fun h9=>?_)
     ·refine sg rfl ?_;refine WP.ret ?_;change Fin ..;refine fin1 hT (by rfl) (Eq.symm (decide_eq_false fun h=>?_));have h3:=(hreg _ _).1 (h.2.2.2.1 i hil)
      simp [-List.getD_eq_getElem?_getD]at h9;omega
     ·refine sk (rg [] rfl ?_);refine ⟨i+1,?_,?_,?_⟩
      ·refine ⟨by omega,fun k h8 h9'=>?_⟩;rcases Nat.lt_or_ge k i with h | h
       ·exact hk k h h9'
       ·obtain rfl:k=i:=by omega
        simp [-List.getD_eq_getElem?_getD]at h9;exact .inl h9
      ·refine em [] trivial ⟨cq,cq,cq,tt⟩ trivial
      ·(try simp only []);first | omega | grind
    ·have hil:8≤i:=by simp [-List.getD_eq_getElem?_getD]at h7;omega
     have hregs:∀ k:Nat,k<8→g.regs.getD k 0=0∨((k:Int)<(dN p g).regs∧g.status≠3∧g.status≠4):=fun k h8=>(hreg _ _).2 (hk k (by omega) h8);have fin:∀ b:Bool,(b=true↔(g.status=4→qN g.why (insOf p g).op=true)∧(g.status≠4→g.why=0)∧(g.status=3→(insOf p g).op=45)∧(g.status=5→su (insOf p g).op=true))→b=decide (uO p g):=fun b hb=>by
      rw [Bool.eq_iff_iff,hb,decide_eq_true_iff];exact ⟨fun h=>⟨hh.1.1,hh.1.2,hh.2,hregs,h⟩,fun h=>h.2.2.2.2⟩
     refine xt (sq (drs [] rfl ?_ ?_))
     ·simp [-List.getD_eq_getElem?_getD,ak,under];omega
     refine sq (sq (rg [] rfl ?_));refine cd rfl (fun h12=>?_) (fun h12=>?_)
     ·have e4:g.status=4:=by simpa using h12
      refine sq (rgs [CG.pure (.bool (qN g.why (insOf p g).op))] rfl ?_ ?_)
      ·exact NQ _ _
      refine WP.ret ?_;change Fin ..;refine fin1 hT (by rfl) (fin _ ?_);simp [e4]
     ·have e4:g.status≠4:=by simpa using h12
      have hq:=zN (insOf p g).op;refine sk (sq (rgs [CG.pure (.bool (su (insOf p g).op))] rfl ?_ ?_))
      ·exact au
      refine WP.ret ?_;change Fin ..;refine fin1 hT (by rfl) (fin _ ?_);simp only [band,bor];simp [e4];grind
theorem Ja (p:ay) (s:PSt) (c:Nat) (hp:qV p) (hg:Zb p s) (hc:c<p.chans.length):AC Tryz.prog T bn 137 [aj p,encS s,.int c] [] (.bool (decide (vK p s c))) []:=by
 refine aA hT Tryz.func137 rfl rfl (Nat.le_of_ble_eq_true rfl) ?_;have hc4:c<4:=Nat.lt_of_lt_of_le hc hp.chans
 have hcap:0≤BO p c∧BO p c≤4:=hp.caps _ (by simp [BO,hc]);refine sg rfl ?_;refine sq ?_;refine WP.ent (st':=aK [(3,.rp 26 (aj p)),(4,.rp 62 (encS s)),(2,.int c)] []) (em [(.s 3 0,1),(.s 4 0,1)] ⟨sF,sF,tt⟩ ⟨rq,rq,cq,tt⟩ trivial) ?_;refine rgs [] rfl ?_ ?_
 ·simp [-List.getD_eq_getElem?_getD,ak,under];omega
 refine sq (sq ?_);refine WP.ent (st':=aK [(7,.rp 56 (dW (dB s c))),(2,.int c),(3,.rp 26 (aj p)),(4,.rp 62 (encS s))] []) (em [(.s 7 0,1)] ⟨sF,tt⟩ ⟨rq,cq,cq,cq,tt⟩ trivial) ?_;refine drs [] rfl ?_ ?_
 ·simp [-List.getD_eq_getElem?_getD,ak,under];omega
 refine cd rfl (fun h2=>?_) (fun h2=>?_)
 ·simp only [bor,band]at h2;refine sg rfl ?_;refine WP.ret ?_;change Fin ..;refine fin1 hT (by rfl) (Eq.symm (decide_eq_false fun h=>?_));have h3:=h.1
  simp [-List.getD_eq_getElem?_getD]at h2 h3;grind
 ·simp only [bor,band]at h2;have h1:(0≤(dB s c).len∧(dB s c).len≤BO p c)∧(0≤(dB s c).offer∧(dB s c).offer≤3)∧((dB s c).offer≠0→BO p c=0):=by
   simp [-List.getD_eq_getElem?_getD]at h2 ⊢;grind
  have hlen:0≤(dB s c).len∧(dB s c).len≤4:=by omega
  refine sk (sq (sq (rg [] rfl ?_)));refine bk ?_;refine WP.loop (α:=Nat) (fun i=>aK [(2,.int c),(3,.rp 26 (aj p)),(4,.rp 62 (encS s)),(7,.rp 56 (dW (dB s c))),(8,.int i)] []) (fun i=>(dB s c).len≤i ∧ ∀ k:Nat,k<i→k<4→(dB s c).len≤k→(dB s c).buf.getD k 0=0) (fun i=>8 - i) ?_ ?_
  ·refine ⟨(dB s c).len.toNat,?_,?_⟩
   ·exact ⟨by omega,fun j hj _ _=>by omega⟩
   ·refine em [] trivial ⟨cq,cq,cq,cq,⟨rfl,_,rfl,ah (by simp [-List.getD_eq_getElem?_getD];omega)⟩,tt⟩ trivial
  ·rintro i ⟨hi,hn⟩;refine sq (sq (rg [] rfl ?_));refine cd rfl (fun h5=>?_) (fun h5=>?_)
   ·have hil:i<4:=by simp [-List.getD_eq_getElem?_getD]at h5;omega
    refine sk (sq (bk (sq (rgs [] rfl ?_ ?_))))
    ·simp [-List.getD_eq_getElem?_getD,ak,under];omega
    refine cd rfl (fun h7=>?_) (fun h7=>?_)
    ·refine sg rfl ?_;refine WP.ret ?_;change Fin ..;refine fin1 hT (by rfl) (Eq.symm (decide_eq_false fun h=>?_));have h3:=h.2.1 i hil hi
     simp [-List.getD_eq_getElem?_getD]at h7;exact h7 h3
    ·refine sk (rg [] rfl ?_);refine ⟨i+1,?_,?_,?_⟩
     ·refine ⟨by omega,fun k h8 h9 h10=>?_⟩;rcases Nat.lt_or_ge k i with h | h
      ·exact hn k h h9 h10
      ·obtain rfl:k=i:=by omega
       simp [-List.getD_eq_getElem?_getD]at h7;exact h7
     ·refine em [] trivial ⟨cq,cq,cq,cq,cq,tt⟩ trivial
     ·(try simp only []);first | omega | grind
   ·have hil:4≤i:=by simp [-List.getD_eq_getElem?_getD]at h5;omega
    have hbuf:∀ k:Nat,k<4→(dB s c).len≤k→(dB s c).buf.getD k 0=0:=fun k h8 h9=>hn k (by omega) h8 h9;have fin:∀ b:Bool,(b=true↔((dB s c).offer=0→(dB s c).frm=0∧(dB s c).val=0) ∧
     ((dB s c).offer=1→(dB s c).closed=false)∧((dB s c).offer=2∨(dB s c).offer=3→(dB s c).val=0)∧((dB s c).offer=3→(dB s c).closed=true)∧((dB s c).offer≠0→qP p s (dB s c).frm c))→b=decide (vK p s c):=fun b hb=>by
     rw [Bool.eq_iff_iff,hb,decide_eq_true_iff];exact ⟨fun h=>⟨h1,hbuf,h⟩,fun h=>h.2.2⟩
    refine xt (sq (sq (rg [] rfl ?_)));refine cd rfl (fun h9=>?_) (fun h9=>?_)
    ·have e0:(dB s c).offer=0:=by simp [-List.getD_eq_getElem?_getD]at h9;exact h9
     refine sg rfl ?_;refine WP.ret ?_;change Fin ..;refine fin1 hT (by rfl) (fin _ ?_);simp only [band];simp [-List.getD_eq_getElem?_getD,e0]
    ·have e0:(dB s c).offer≠0:=by simp [-List.getD_eq_getElem?_getD]at h9;exact h9
     refine sk (sq (sq (rg [] rfl ?_)));refine cd rfl (fun h11=>?_) (fun h11=>?_)
     ·simp only [band,bor]at h11;refine sg rfl ?_;refine WP.ret ?_;change Fin ..;refine fin1 hT (by rfl) (fin _ ?_);simp [-List.getD_eq_getElem?_getD]at h11 ⊢;grind
     ·simp only [band,bor]at h11;have h12:((dB s c).offer=1→(dB s c).closed=false)∧((dB s c).offer=2∨(dB s c).offer=3→(dB s c).val=0)∧((dB s c).offer=3→(dB s c).closed=true):=by
       simp [-List.getD_eq_getElem?_getD]at h11;grind
      have h6:=hg.1;refine sk (sq (sq (rgs [] rfl ?_ ?_)))
      ·simp [-List.getD_eq_getElem?_getD,ak,under];omega
      refine cd rfl (fun h13=>?_) (fun h13=>?_)
      ·simp only [bor]at h13;refine sg rfl ?_;refine WP.ret ?_;change Fin ..;refine fin1 hT (by rfl) (fin _ ?_);have:¬ qP p s (dB s c).frm c:=by
        intro h;obtain ⟨a,b,d,_⟩:=h;simp [-List.getD_eq_getElem?_getD]at h13;grind
       simp [-List.getD_eq_getElem?_getD,e0,this]
      ·simp only [bor]at h13;have hh:0≤(dB s c).frm∧(dB s c).frm<s.count∧(goI s (dB s c).frm).status=2:=by simp [-List.getD_eq_getElem?_getD]at h13;grind
       have hf:=hg.2 (dB s c).frm.toNat (by omega);refine sk (sq (drs [] rfl ?_ ?_))
       ·have h3:=hf.2.1;have h4:=hf.2.2.1;simp only [bQ,dN]at h3 h4
        simp [-List.getD_eq_getElem?_getD,ak,under];omega
       refine sg rfl ?_;refine WP.ret ?_;change Fin ..;refine fin1 hT (by rfl) (fin _ ?_);simp only [band];rw [Bool.and_eq_true,beq_iff_eq,beq_iff_eq];constructor
       ·exact fun h=>⟨fun e=>absurd e e0,h12.1,h12.2.1,h12.2.2,fun _=>⟨hh.1,hh.2.1,hh.2.2,h⟩⟩
       ·exact fun h=>(h.2.2.2.2 e0).2.2.2
theorem fJ {s:PSt} (h:OkS s) (k:Nat):Jm (s.gos.getD k go0):=by
 rw [List.getD_eq_getElem?_getD];cases hk:s.gos[k]? with
 | none=>rfl
 | some g=>exact h.go g (List.mem_of_getElem? hk)
theorem jh {s:PSt} (h:OkS s) (k:Nat):Ny (s.chans.getD k ch0):=by
 rw [List.getD_eq_getElem?_getD];cases hk:s.chans[k]? with
 | none=>rfl
 | some g=>exact h.ch g (List.mem_of_getElem? hk)
theorem Ur {g:PGo} (h:Jm g):(g.status==0&&(g.func==0&&(g.pc==0&&(g.why==0&&(true&&g.regs.getD 0 0==0&&g.regs.getD 1 0==0&&g.regs.getD 2 0==0&&g.regs.getD 3 0==0&&g.regs.getD 4 0==0&&g.regs.getD 5 0==0&&g.regs.getD 6 0==0&&g.regs.getD 7 0==0&&true)))))=decide (g=go0):=by
 obtain ⟨a,b,c,d,l⟩:=g
 match l,h with
 | [x0,x1,x2,x3,x4,x5,x6,x7],_ =>
  rw [Bool.eq_iff_iff];simp [go0];grind
theorem Vd {c:iM} (h:Ny c):(true&&c.buf.getD 0 0==0&&c.buf.getD 1 0==0&&c.buf.getD 2 0==0&&c.buf.getD 3 0==0&&(c.len==0&&(c.closed==false&&(c.offer==0&&(c.frm==0&&(c.val==0&&true))))))=decide (c=ch0):=by
 obtain ⟨l,a,b,c,d,e⟩:=c
 match l,h with
 | [x0,x1,x2,x3],_ =>
  rw [Bool.eq_iff_iff];simp [ch0];grind
theorem ZT (p:ay) (s:PSt):(AV.agg 279 6 fun _=>AV.int 0)=o7 279 6 .i64 (Em p s 0):=bg fun i=>by match i with | 0 | 1 | 2 | 3 | 4 | 5=>rfl | i+6=>rfl
theorem JZ (p:ay) (s:PSt) (ho:OkS s):AC Tryz.prog T bn 129 [aj p,encS s] [] (.bool (decide (dw p s))) []:=by
 refine aA hT Tryz.func129 rfl rfl (Nat.le_of_ble_eq_true rfl) ?_;refine sg rfl ?_;refine sq (sq ?_);refine WP.ent (st':=aK [(2,.rp 26 (aj p)),(3,.rp 62 (encS s))] []) (em [(.s 2 0,1),(.s 3 0,1)] ⟨sF,sF,tt⟩ ⟨rq,rq,tt⟩ trivial) ?_;refine rgs [CG.pure (.bool (dQ p))] rfl ?_ ?_
 ·have hq:=zG p;exact au
 refine cd rfl (fun h1=>?_) (fun h1=>?_)
 ·simp only [bor]at h1;refine sg rfl ?_;refine WP.ret ?_;change Fin ..;refine fin1 hT (by rfl) (Eq.symm (decide_eq_false fun h=>?_));have h2:=h.1;have h3:=h.2.1
  simp [-List.getD_eq_getElem?_getD,h2]at h1;omega
 ·simp only [bor]at h1;have hr:dQ p=true∧(1≤s.count∧s.count≤6):=by simp [-List.getD_eq_getElem?_getD]at h1;cases hz:dQ p <;> simp [hz]at h1 ⊢ <;> omega
  have hp:=jg hr.1;have hpl:p.locks≤4:=hp.locks.2
  refine sk (sq (sq (rg [] rfl ?_)));refine bk ?_;refine WP.loop (α:=Nat) (fun i=>aK [(2,.rp 26 (aj p)),(3,.rp 62 (encS s)),(30,o7 52 8 .i64 s.vars),(31,.int i)] []) (fun i=>i≤8 ∧ ∀ k,k<i→RZ p s k) (fun i=>8 - i) ?_ ?_
  ·refine ⟨0,?_,?_⟩
   ·exact ⟨Nat.zero_le _,fun j hj=>by omega⟩
   ·refine em [] trivial ⟨cq,cq,cq,cq,tt⟩ trivial
  ·rintro i ⟨hi,hn⟩;refine sg rfl ?_;refine sq ?_;refine cd rfl (fun h4=>?_) (fun h4=>?_)
   ·have hil:i<8:=by simp [-List.getD_eq_getElem?_getD]at h4;omega
    refine sk (sq (bk (sq (rgs [] rfl ?_ ?_))))
    ·simp [-List.getD_eq_getElem?_getD,ak,under];omega
    refine sg rfl ?_;refine cd rfl (fun h6=>?_) (fun h6=>?_)
    ·simp only [band]at h6;refine sg rfl ?_;refine WP.ret ?_;change Fin ..;refine fin1 hT (by rfl) (Eq.symm (decide_eq_false fun h=>?_));have h3:=h.2.2.1 i hil
     unfold RZ at h3;simp [-List.getD_eq_getElem?_getD]at h6;exact h6.2 (h3 (by omega))
    ·simp only [band]at h6;refine sk (rg [] rfl ?_);refine ⟨i+1,?_,?_,?_⟩
     ·exact ⟨hil,all_succ hn (fun h=>by simp [-List.getD_eq_getElem?_getD]at h6;exact h6 (by omega))⟩
     ·refine em [] trivial ⟨cq,cq,cq,cq,tt⟩ trivial
     ·(try simp only []);first | omega | grind
   ·have hil:i=8:=by simp [-List.getD_eq_getElem?_getD]at h4;omega
    subst hil;refine xt (sq (sq (rg [] rfl ?_)));refine bk ?_;refine WP.loop (α:=Nat) (fun j=>aK [(2,.rp 26 (aj p)),(3,.rp 62 (encS s)),(46,o7 53 4 .i64 s.owner),(47,.int j)] []) (fun j=>j≤4 ∧ ∀ k,k<j→Nu p s k) (fun j=>4 - j) ?_ ?_
    ·refine ⟨0,?_,?_⟩
     ·exact ⟨Nat.zero_le _,fun j hj=>by omega⟩
     ·refine em [] trivial ⟨cq,cq,cq,cq,tt⟩ trivial
    ·rintro j ⟨hj,hno⟩;refine sg rfl ?_;refine sq ?_;refine cd rfl (fun h10=>?_) (fun h10=>?_)
     ·have hjl:j<4:=by simp [-List.getD_eq_getElem?_getD]at h10;omega
      refine sk (sq (bk (sq (rgs [] rfl ?_ ?_))))
      ·simp [-List.getD_eq_getElem?_getD,ak,under];omega
      refine sg rfl ?_;refine cd rfl (fun h12=>?_) (fun h12=>?_)
      ·simp only [band,bor]at h12;refine sg rfl ?_;refine WP.ret ?_;change Fin ..;refine fin1 hT (by rfl) (Eq.symm (decide_eq_false fun h=>?_));have h3:=h.2.2.2.1 j hjl
       unfold Nu at h3;simp [-List.getD_eq_getElem?_getD]at h12;grind
      ·simp only [band,bor]at h12;refine sk (rg [] rfl ?_);refine ⟨j+1,?_,?_,?_⟩
       ·exact ⟨hjl,all_succ hno (by unfold Nu;simp [-List.getD_eq_getElem?_getD]at h12;grind)⟩
       ·refine em [] trivial ⟨cq,cq,cq,cq,tt⟩ trivial
       ·(try simp only []);first | omega | grind
     ·have hjl:j=4:=by simp [-List.getD_eq_getElem?_getD]at h10;omega
      subst hjl;refine xt (sq (sq (rg [] rfl ?_)));refine bk ?_;refine WP.loop (α:=Nat) (fun k=>aK [(2,.rp 26 (aj p)),(3,.rp 62 (encS s)),(71,ET 60 6 bP go0 s.gos),(72,.int k)] []) (fun k=>k≤6 ∧ ∀ j,j<k→LD p s j) (fun k=>6 - k) ?_ ?_
      ·refine ⟨0,?_,?_⟩
       ·exact ⟨Nat.zero_le _,fun j hj=>by omega⟩
       ·refine em [] trivial ⟨cq,cq,cq,cq,tt⟩ trivial
      ·rintro k ⟨hk,hng⟩;refine sg rfl ?_;refine sq ?_;refine cd rfl (fun h16=>?_) (fun h16=>?_)
       ·have hkl:k<6:=by simp [-List.getD_eq_getElem?_getD]at h16;omega
        refine sk (sq (bk (sq (rgs [] rfl ?_ ?_))))
        ·simp [-List.getD_eq_getElem?_getD,ak,under];omega
        refine sq (rgs [CG.pure (.bool (decide (uO p (s.gos.getD k go0))))] rfl ?_ ?_)
        ·have hq:=XV p (s.gos.getD k go0);exact au
        refine cd rfl (fun h18=>?_) (fun h18=>?_)
        ·simp only [band,bor,Int.toNat_natCast]at h18;rw [Ur (fJ ho k)]at h18;refine sg rfl ?_;refine WP.ret ?_;change Fin ..;refine fin1 hT (by rfl) (Eq.symm (decide_eq_false fun h=>?_));have h3:=h.2.2.2.2.1 k hkl
         unfold LD at h3;simp [-List.getD_eq_getElem?_getD]at h18;grind
        ·simp only [band,bor,Int.toNat_natCast]at h18;rw [Ur (fJ ho k)]at h18;refine sk (rg [] rfl ?_);refine ⟨k+1,?_,?_,?_⟩
         ·exact ⟨hkl,all_succ hng (by unfold LD;simp [-List.getD_eq_getElem?_getD]at h18;grind)⟩
         ·refine em [] trivial ⟨cq,cq,cq,cq,tt⟩ trivial
         ·(try simp only []);first | omega | grind
       ·have hkl:k=6:=by simp [-List.getD_eq_getElem?_getD]at h16;omega
        subst hkl;have hgp:Zb p s:=⟨hr.2.2,fun k hk=>(hng k (by omega)).1 hk⟩
        refine xt (sq (rg [] rfl ?_));refine sq (sq (rg [] rfl ?_));refine bk ?_;refine WP.loop (α:=Nat) (fun c=>aK [(2,.rp 26 (aj p)),(3,.rp 62 (encS s)),(11,.ptr (.s 11 0) 1 0 []),(100,ET 57 4 dW ch0 s.chans),(101,.int c)] [(.s 11 0,.cells ⟨279,1,fun _=>o7 279 6 .i64 (Em p s c),0⟩)]) (fun c=>c≤4 ∧ ∀ j,j<c→Vb p s j) (fun c=>4 - c) ?_ ?_
        ·refine ⟨0,?_,?_⟩
         ·exact ⟨Nat.zero_le _,fun j hj=>by omega⟩
         ·refine em [] trivial ⟨cq,cq,cq,cq,cq,tt⟩ ⟨obs rfl (hg:=q0 (ah (ZT p s))),tt⟩
        ·rintro c ⟨hc,hnc⟩;refine sg rfl ?_;refine sq ?_;refine cd rfl (fun h23=>?_) (fun h23=>?_)
         ·have hcl:c<4:=by simp [-List.getD_eq_getElem?_getD]at h23;omega
          refine sk (sq (bk (sq (rgs [] rfl ?_ ?_))))
          ·simp [-List.getD_eq_getElem?_getD,ak,under];omega
          refine sq (sq (rg [] rfl ?_));refine cd rfl (fun h25=>?_) (fun h25=>?_)
          ·have hpc:p.chans.length≤c:=by simp [-List.getD_eq_getElem?_getD]at h25;omega
           refine sq (sq (rg [] rfl ?_));refine cd rfl (fun h26=>?_) (fun h26=>?_)
           ·simp only [Int.toNat_natCast]at h26;rw [Vd (jh ho c)]at h26;refine sg rfl ?_;refine WP.ret ?_;change Fin ..;refine fin1 hT (by rfl) (Eq.symm (decide_eq_false fun h=>?_));have h3:=h.2.2.2.2.2.1 c hcl
            unfold Vb at h3;simp [-List.getD_eq_getElem?_getD]at h26;exact h26 (h3.2 hpc)
           ·simp only [Int.toNat_natCast]at h26;rw [Vd (jh ho c)]at h26;refine sk (xt (rg [] rfl ?_));refine ⟨c+1,?_,?_,?_⟩
            ·exact ⟨hcl,all_succ hnc ⟨fun h=>by omega,fun _=>by simp [-List.getD_eq_getElem?_getD]at h26;exact h26⟩⟩
            ·refine em [] trivial ⟨cq,cq,cq,cq,cq,tt⟩ ⟨obs rfl (hg:=q0 (ah (by rw [F8 (by omega)]))),tt⟩
            ·(try simp only []);first | omega | grind
          ·have hpc:c<p.chans.length:=by simp [-List.getD_eq_getElem?_getD]at h25;omega
           refine sk (sq (sq (rgs [CG.pure (.bool (decide (vK p s c)))] rfl ?_ ?_)))
           ·have hq:=NU p s c hp hgp hpc;exact au
           refine cd rfl (fun h28=>?_) (fun h28=>?_)
           ·refine sg rfl ?_;refine WP.ret ?_;change Fin ..;refine fin1 hT (by rfl) (Eq.symm (decide_eq_false fun h=>?_));have h3:=(h.2.2.2.2.2.1 c hcl).1 hpc
            simp [h3]at h28
           ·have hch:vK p s c:=by simpa using h28
            refine sk (sq (rg [] rfl ?_));refine cd rfl (fun h30=>?_) (fun h30=>?_)
            ·have hof:(dB s c).offer≠0:=by simp [-List.getD_eq_getElem?_getD]at h30;exact h30
             have hfr:=hch.2.2.2.2.2.2 hof;have hfr2:0≤(dB s c).frm∧(dB s c).frm<6:=⟨hfr.1,by have:=hfr.2.1;omega⟩
             refine rgs [] rfl ?_ ?_
             ·simp [-List.getD_eq_getElem?_getD,ak,under];omega
             refine rg [] rfl ?_;have hl:=Jo p s (dB s c).frm c
             have h0:=Jp p s c (g:=(dB s c).frm.toNat) (by omega);rw [Int.toNat_of_nonneg hfr2.1]at h0;have hE:(o7 279 6 .i64 (Em p s c)).put [(dB s c).frm.toNat] (.int (IntKind.i64.wrap ((Em p s c).getD (dB s c).frm.toNat 0+1)))=o7 279 6 .i64 (Em p s (c+1)):=by
              refine (wJ (by rw [Ub];omega)).trans (congrArg (o7 _ _ _) (Eq.trans ?_ (Ua ⟨hpc,hof⟩ hfr2)));rw [h0,bC (by omega) (by omega)]
             refine ⟨c+1,?_,?_,?_⟩
             ·exact ⟨hcl,all_succ hnc ⟨fun _=>hch,fun h=>by omega⟩⟩
             ·refine em [] trivial ⟨cq,cq,cq,cq,cq,tt⟩ ⟨obs rfl (hg:=q0 (ah hE)),tt⟩
             ·(try simp only []);first | omega | grind
            ·refine sk (rg [] rfl ?_);refine ⟨c+1,?_,?_,?_⟩
             ·exact ⟨hcl,all_succ hnc ⟨fun _=>hch,fun h=>by omega⟩⟩
             ·refine em [] trivial ⟨cq,cq,cq,cq,cq,tt⟩ ⟨obs rfl (hg:=q0 (ah (by rw [F8 (fun h=>by simp [-List.getD_eq_getElem?_getD]at h30;exact h.2 h30)]))),tt⟩
             ·(try simp only []);first | omega | grind
         ·have hcl:c=4:=by simp [-List.getD_eq_getElem?_getD]at h23;omega
          subst hcl;refine xt (sq (sq (rg [] rfl ?_)));refine bk ?_;refine WP.loop (α:=Nat) (fun i=>aK [(3,.rp 62 (encS s)),(11,.ptr (.s 11 0) 1 0 []),(129,ET 60 6 bP go0 s.gos),(130,.int i)] [(.s 11 0,.cells ⟨279,1,fun _=>o7 279 6 .i64 (Em p s 4),0⟩)]) (fun i=>i≤6 ∧ ∀ j,j<i→Oi p s j) (fun i=>6 - i) ?_ ?_
          ·refine ⟨0,?_,?_⟩
           ·exact ⟨Nat.zero_le _,fun j hj=>by omega⟩
           ·refine em [] trivial ⟨cq,cq,cq,cq,tt⟩ ⟨obs rfl,tt⟩
          ·rintro i ⟨hi,hni⟩;refine sg rfl ?_;refine sq ?_;refine cd rfl (fun h34=>?_) (fun h34=>?_)
           ·have hil:i<6:=by simp [-List.getD_eq_getElem?_getD]at h34;omega
            refine sk (sq (bk (sq (rgs [] rfl ?_ ?_))))
            ·simp [-List.getD_eq_getElem?_getD,ak,under];omega
            refine sq (rgs [] rfl ?_ ?_)
            ·simp [-List.getD_eq_getElem?_getD,ak,under];omega
            refine cd rfl (fun h36=>?_) (fun h36=>?_)
            ·simp only [band,bor,Int.toNat_natCast]at h36;rw [Jp p s 4 hil]at h36;refine sg rfl ?_;refine WP.ret ?_;change Fin ..;refine fin1 hT (by rfl) (Eq.symm (decide_eq_false fun h=>?_));have h3:=h.2.2.2.2.2.2 i hil
             unfold Oi at h3;simp [-List.getD_eq_getElem?_getD]at h36;grind
            ·simp only [band,bor,Int.toNat_natCast]at h36;rw [Jp p s 4 hil]at h36;refine sk (rg [] rfl ?_);refine ⟨i+1,?_,?_,?_⟩
             ·exact ⟨hil,all_succ hni (by unfold Oi;simp [-List.getD_eq_getElem?_getD]at h36;grind)⟩
             ·refine em [] trivial ⟨cq,cq,cq,cq,tt⟩ ⟨obs rfl,tt⟩
             ·(try simp only []);first | omega | grind
           ·have hil:i=6:=by simp [-List.getD_eq_getElem?_getD]at h34;omega
            subst hil;refine xt (sq (rg [] rfl ?_));exact WP.ret (fin1 hT (by rfl) (Eq.symm (decide_eq_true ⟨hr.1,hr.2,hn,hno,hng,hnc,hni⟩)))
theorem Nc (p:ay):AC Tryz.prog T bn 61 [aj p] [] (yE p) []:=by
 refine aA hT Tryz.func61 rfl rfl (Nat.le_of_ble_eq_true rfl) ?_;refine sg rfl ?_;refine sq (sq (rg [] rfl ?_));refine cd rfl (fun h1=>?_) (fun h1=>?_)
 ·have hb:szB p=true:=by
   simp only [bor]at h1;exact h1
  have hw:jS p=30:=by rw [jS,if_pos hb]
  refine sg rfl ?_;exact WP.ret (jG (e:=30) (a:=0) (b:=0) (by rw [nU,hw,if_pos (by decide)]) rfl rfl rfl rfl rfl rfl (ah rfl))
 ·have hb0:szB p=false:=by
   simp only [bor]at h1;exact h1
  have hcl:p.chans.length≤4∧p.funcs.length≤8:=by
   have h9:=hb0;simp [szB]at h9;omega
  refine sk (sq (sq (rg [] rfl ?_)));refine bk ?_;refine WP.loop (α:=Nat) (fun i=>aK [(1,.rp 26 (aj p)),(3,.ptr (.s 3 0) 1 0 []),(46,ints false p.chans),(47,.int p.chans.length),(48,.int i)] [(.s 3 0,.cells ⟨128,1,fun _=>yH 0 0,0⟩)]) (fun i=>i≤p.chans.length ∧ ∀ j,j<i→Ia (p.chans.getD j 0)=0) (fun i=>p.chans.length - i) ?_ ?_
  ·refine ⟨0,?_,?_⟩
   ·exact ⟨Nat.zero_le _,fun j hj=>by omega⟩
   ·refine em [(.s 1 0,1)] ⟨⟨_,rfl,Nat.le_refl _⟩,tt⟩ ⟨⟨rfl,_,rfl,aZ rfl rfl (by decide) rfl rfl rfl⟩,cq,cq,cq,cq,tt⟩ ⟨obs rfl,tt⟩
  ·rintro i ⟨hi,hn⟩;refine sg rfl ?_;refine sq ?_;refine cd rfl (fun h4=>?_) (fun h4=>?_)
   ·have hil:i<p.chans.length:=by simpa using h4
    refine sk (sq (bk (sq (rgs [] rfl ?_ ?_))))
    ·simp [ak,under];omega
    refine sg rfl ?_;refine cd rfl (fun h6=>?_) (fun h6=>?_)
    ·have hx:Ia (p.chans.getD i 0)=31:=by
      simp only [bor]at h6;exact if_pos h6
     have hw:jS p=31:=by rw [jS,hb0,if_neg (by simp),vG hil hn (by rw [hx];decide),hx]
     refine sg rfl ?_;exact WP.ret (jG (e:=31) (a:=0) (b:=0) (by rw [nU,hw,if_pos (by decide)]) rfl rfl rfl rfl rfl rfl (ah rfl))
    ·have hx:Ia (p.chans.getD i 0)=0:=by
      simp only [bor]at h6;exact if_neg (by rw [show (decide (p.chans.getD i 0<0)||decide (p.chans.getD i 0>4))=false from h6];decide)
     refine sk (rg [] rfl ?_);refine ⟨i+1,?_,?_,?_⟩
     ·exact ⟨hil,fZ hn hx⟩
     ·refine em [] trivial ⟨cq,cq,cq,cq,cq,tt⟩ ⟨obs rfl,tt⟩
     ·(try simp only []);first | omega | grind
   ·have hil:i=p.chans.length:=by simp at h4;omega
    subst hil;have hw:jS p=0:=by rw [jS,hb0,if_neg (by simp),jF hn]
    clear hn hi;have hfl:=hcl.2
    refine xt (sq (sq (rg [] rfl ?_)));refine bk ?_;refine WP.loop (α:=Nat) (fun i=>aK [(1,.rp 26 (aj p)),(3,.ptr (.s 3 0) 1 0 []),(61,rowP 100 dI mD p.funcs),(62,.int p.funcs.length),(63,.int i)] [(.s 3 0,.cells ⟨128,1,fun _=>yH 0 0,0⟩)]) (fun i=>i≤p.funcs.length ∧ ∀ j,j<i→(AA p (aY p j) (j==0)).1=0) (fun i=>p.funcs.length - i) ?_ ?_
    ·refine ⟨0,?_,?_⟩
     ·exact ⟨Nat.zero_le _,fun j hj=>by omega⟩
     ·refine em [] trivial ⟨cq,cq,cq,cq,cq,tt⟩ ⟨obs rfl,tt⟩
    ·rintro i ⟨hi,hn⟩;refine sg rfl ?_;refine sq ?_;refine cd rfl (fun h10=>?_) (fun h10=>?_)
     ·have hil:i<p.funcs.length:=by simpa using h10
      refine sk (sq (bk (sq (rgs [] rfl ?_ ?_))))
      ·simp [ak,under];omega
      refine sq (sq (rgs [CG.pure (.bool (eH (aY p i) (i==0)))] rfl ?_ ?_))
      ·have hz:=Qx i (aY p i);refine ⟨rfl,?_⟩;exact hz
      refine cd rfl (fun h12=>?_) (fun h12=>?_)
      ·have hb:eH (aY p i) (i==0)=false:=by simpa using h12
       refine sg rfl ?_;exact WP.ret (jG (e:=32) (a:=i) (b:=0) (oI (e:=32) hw hil hn (by rw [AA,if_pos hb]) (by decide)) rfl rfl rfl rfl rfl rfl (ah (bg (fun q=>by match q with | 0 | 1 | q+2=>rfl))))
      ·have hb:eH (aY p i) (i==0)=true:=by simpa using h12
       have h64:(aY p i).code.length≤64∧1≤(aY p i).code.length:=by
        have h1:szF (aY p i) (i==0)=true:=by
         have h2:=hb;rw [eH,Bool.and_eq_true]at h2;exact h2.1
        rw [oK]at h1;omega
       refine sk (sq (rgs [CG.pure (.int (qY p (aY p i)))] rfl ?_ ?_))
       ·have hs:=I7 p (aY p i) (i==0) hb;refine ⟨rfl,?_⟩;exact hs
       refine sq (sq (rg [] rfl ?_));refine cd rfl (fun h15=>?_) (fun h15=>?_)
       ·have hs:qY p (aY p i)≠0:=by simpa using h15
        refine sg rfl ?_;refine WP.ret ?_;change Fin ..;exact jG (e:=qY p (aY p i)) (a:=i) (b:=0) (oI hw hil hn (by rw [AA,if_neg (by rw [hb];decide),if_pos hs]) hs) rfl rfl rfl rfl rfl rfl (ah (bg (fun q=>by match q with | 0 | 1 | q+2=>rfl)))
       ·have hs:qY p (aY p i)=0:=by simpa using h15
        refine sk (sq (sq (rg [] rfl ?_)));refine bk ?_;refine WP.loop (α:=Nat) (fun k=>aK [(1,.rp 26 (aj p)),(3,.ptr (.s 3 0) 1 0 []),(6,.int i),(7,.rp 100 (dI (aY p i))),(61,rowP 100 dI mD p.funcs),(62,.int p.funcs.length),(63,.int i),(83,rowP 120 aP qR (aY p i).code),(84,.int (aY p i).code.length),(85,.int k)] [(.s 3 0,.cells ⟨128,1,fun _=>yH 0 0,0⟩)]) (fun k=>k≤(aY p i).code.length ∧ ∀ j,j<k→iH p (aY p i) ((aY p i).code.getD j qR)=0) (fun k=>(aY p i).code.length - k) ?_ ?_
        ·refine ⟨0,?_,?_⟩
         ·exact ⟨Nat.zero_le _,fun j hj=>by omega⟩
         ·refine em [(.s 7 0,1)] ⟨⟨_,rfl,Nat.le_refl _⟩,tt⟩ ⟨cq,cq,cq,⟨rfl,_,rfl,aZ rfl rfl (by decide) rfl rfl rfl⟩,cq,cq,cq,cq,cq,cq,tt⟩ ⟨obs rfl,tt⟩
        ·rintro k ⟨hk,hc⟩;refine sg rfl ?_;refine sq ?_;refine cd rfl (fun h18=>?_) (fun h18=>?_)
         ·have hkl:k<(aY p i).code.length:=by simpa using h18
          refine sk (sq (bk (sq (rgs [] rfl ?_ ?_))))
          ·have hkl2:k<(p.funcs[i]?.getD mD).code.length:=hkl;simp [ak,under];omega
          refine sq (rgs [CG.pure (.int (iH p (aY p i) ((aY p i).code.getD k qR)))] rfl ?_ ?_)
          ·have hx:=Pg p (aY p i) ((aY p i).code.getD k qR);refine ⟨rfl,?_⟩;exact hx
          refine sg rfl ?_;refine cd rfl (fun h21=>?_) (fun h21=>?_)
          ·have hx:iH p (aY p i) ((aY p i).code.getD k qR)≠0:=by simpa using h21
           refine sg rfl ?_;refine WP.ret ?_;change Fin ..;exact jG (e:=iH p (aY p i) ((aY p i).code.getD k qR)) (a:=i) (b:=k) (oI hw hil hn (by rw [AA,if_neg (by rw [hb];decide),if_neg (fun h=>h hs),vG hkl hc hx,QG hkl hc hx,if_pos hx]) hx) rfl rfl rfl rfl rfl rfl (ah (bg (fun q=>by match q with | 0 | 1 | q+2=>rfl)))
          ·have hx:iH p (aY p i) ((aY p i).code.getD k qR)=0:=by simpa using h21
           refine sk (rg [] rfl ?_);refine ⟨k+1,?_,?_,?_⟩
           ·exact ⟨hkl,fZ hc hx⟩
           ·refine em [] trivial ⟨cq,cq,cq,cq,cq,cq,cq,cq,cq,cq,tt⟩ ⟨obs rfl,tt⟩
           ·(try simp only []);first | omega | grind
         ·have hkl:k=(aY p i).code.length:=by simp only [decide_eq_false_iff_not]at h18;omega
          subst hkl;have ho:((aY p i).code.getD (IntKind.i64.wrap (((aY p i).code.length:Int) - 1)).toNat qR).op=yN (aY p i):=by
           have hlst:(aY p i).code.getD (IntKind.i64.wrap (((aY p i).code.length:Int) - 1)).toNat qR=(aY p i).code.getD ((aY p i).code.length - 1) qR:=by
            rw [bC (by omega) (by omega)];congr 1;omega
           rw [hlst];rfl
          refine xt (sq (rgs [] rfl ?_ ?_))
          ·have hc64:(p.funcs[i]?.getD mD).code.length≤64∧1≤(p.funcs[i]?.getD mD).code.length:=h64;simp [ak,under];rw [bC (by omega) (by omega)];omega
          refine sg rfl ?_;refine cd rfl (fun h25=>?_) (fun h25=>?_)
          ·have he:BH (yN (aY p i))=false:=by
            simp only [band,Bool.and_eq_true,bne_iff_ne]at h25;rw [← ho];exact QM (by simpa using h25.1.1) (by simpa using h25.1.2) (by simpa using h25.2)
           refine sq (dr [] rfl ?_);refine WP.ret ?_;change Fin ..;exact jG (e:=39) (a:=i) (b:=IntKind.i64.wrap (((aY p i).code.length:Int) - 1)) (by
            rw [bC (by omega) (by omega)];exact oI hw hil hn (by rw [AA,if_neg (by rw [hb];decide),if_neg (fun h=>h hs),if_neg (fun h=>h (jF hc)),if_neg (by rw [he];decide)]) (by decide)) rfl rfl rfl rfl rfl rfl (ah (bg (fun q=>by match q with | 0 | 1 | q+2=>rfl)))
          ·have he:BH (yN (aY p i))=true:=by
            rw [← ho];have e:=h25
            simp only [band]at e;cases hz:BH ((aY p i).code.getD (IntKind.i64.wrap (((aY p i).code.length:Int) - 1)).toNat qR).op with
            | true=>rfl
            | false =>
             exfalso;simp only [BH,Bool.or_eq_false_iff]at hz;simp only [bne,hz.1.1,hz.1.2,hz.2]at e;cases e
           refine sk (rg [] rfl ?_);refine ⟨i+1,?_,?_,?_⟩
           ·refine ⟨hil,fZ hn ?_⟩;rw [AA,if_neg (by rw [hb];decide),if_neg (fun h=>h hs),if_neg (fun h=>h (jF hc)),if_pos he]
           ·refine em [] trivial ⟨cq,cq,cq,cq,cq,tt⟩ ⟨obs rfl,tt⟩
           ·(try simp only []);first | omega | grind
     ·have hil:i=p.funcs.length:=by simp at h10;omega
      subst hil;refine xt (sq (rg [] rfl ?_));exact WP.ret (jG (e:=0) (a:=0) (b:=0) (Md hw hn) rfl rfl rfl rfl rfl rfl (ah rfl))
theorem yT (p:ay):AC Tryz.prog T bn 24 [aj p] [] (.bool ((nU p).1==0)) []:=by
 refine aA hT Tryz.func24 rfl rfl (Nat.le_of_ble_eq_true rfl) ?_;refine sg rfl ?_;refine sq (rgs [CG.pure (yE p)] rfl ?_ ?_)
 ·have hc:=Nc p;exact ⟨⟨rfl,hc⟩,rfl,Nat.le_refl _⟩
 refine sg rfl ?_;exact WP.ret (fin1 hT (by rfl) rfl)
theorem TY {p:ay} {s:PSt} {g:Int} (h:∀ k,k<4→p.chans.length≤k→dB s k=ch0):∀ c,c<4→BF p s g (c+1)=BF p s g c+if (dB s c).offer≠0∧(dB s c).frm=g then 1 else 0:=fun c hc=>by
 rw [BF];by_cases h1:c<p.chans.length
 ·simp only [h1,true_and]
 ·rw [if_neg (fun e=>h1 e.1),h c hc (by omega)];rfl
theorem OU (p:ay) (s:PSt) (ho:OkS s):AC Tryz.prog T bn 91 [aj p,encS s] [] (.bool (decide (dw p s))) []:=by
 refine aA hT Tryz.func91 rfl rfl (Nat.le_of_ble_eq_true rfl) ?_;refine sg rfl ?_;refine sq (sq ?_);refine WP.ent (st':=aK [(2,.rp 26 (aj p)),(3,.rp 62 (encS s))] []) (em [(.s 2 0,1),(.s 3 0,1)] ⟨sF,sF,tt⟩ ⟨rq,rq,tt⟩ trivial) ?_;refine rgs [CG.pure (.bool (dQ p))] rfl ?_ ?_
 ·have hq:=yT p;exact au
 refine cd rfl (fun h1=>?_) (fun h1=>?_)
 ·simp only [bor]at h1;refine sg rfl ?_;refine WP.ret ?_;change Fin ..;refine fin1 hT (by rfl) (Eq.symm (decide_eq_false fun h=>?_));have h2:=h.1;have h3:=h.2.1
  simp [-List.getD_eq_getElem?_getD,h2]at h1;omega
 ·simp only [bor]at h1;have hr:dQ p=true∧(1≤s.count∧s.count≤6):=by simp [-List.getD_eq_getElem?_getD]at h1;cases hz:dQ p <;> simp [hz]at h1 ⊢ <;> omega
  have hp:=jg hr.1;have hF:∀ f∈p.funcs,0≤f.regs:=fun f hf=>(hp.fn f hf).regs.1
  have hpl:p.locks≤4:=hp.locks.2;have hvl:=hp.vars
  refine sk (sq (sq (rg [] rfl ?_)));refine bk ?_;refine WP.loop (α:=Nat) (fun k=>aK [(2,.rp 26 (aj p)),(3,.rp 62 (encS s)),(25,.int k)] []) (fun k=>k≤6 ∧ ∀ j,j<k→LD p s j) (fun k=>6 - k) ?_ ?_
  ·refine ⟨0,?_,?_⟩
   ·exact ⟨Nat.zero_le _,fun j hj=>by omega⟩
   ·refine em [] trivial ⟨cq,cq,cq,tt⟩ trivial
  ·rintro k ⟨hk,hng⟩;refine sg rfl ?_;refine sq ?_;refine cd rfl (fun h4=>?_) (fun h4=>?_)
   ·have hkl:k<6:=by simp [-List.getD_eq_getElem?_getD]at h4;omega
    refine sk (sq (bk (sq (rg [] rfl ?_))));refine sq (drs [CG.pure (.bool (decide (uO p (s.gos.getD k go0))))] rfl ?_ ?_)
    ·have hq:=Gz p (s.gos.getD k go0) hF;exact au
    refine cd rfl (fun h6=>?_) (fun h6=>?_)
    ·simp only [band,bor,Int.toNat_natCast]at h6;rw [Ur (fJ ho k)]at h6;refine sg rfl ?_;refine WP.ret ?_;change Fin ..;refine fin1 hT (by rfl) (Eq.symm (decide_eq_false fun h=>?_));have h3:=h.2.2.2.2.1 k hkl
     unfold LD at h3;simp [-List.getD_eq_getElem?_getD]at h6;grind
    ·simp only [band,bor,Int.toNat_natCast]at h6;rw [Ur (fJ ho k)]at h6;refine sk (rg [] rfl ?_);refine ⟨k+1,?_,?_,?_⟩
     ·exact ⟨hkl,all_succ hng (by unfold LD;simp [-List.getD_eq_getElem?_getD]at h6;grind)⟩
     ·refine em [] trivial ⟨cq,cq,cq,tt⟩ trivial
     ·(try simp only []);first | omega | grind
   ·have hkl:k=6:=by simp [-List.getD_eq_getElem?_getD]at h4;omega
    subst hkl;have hgp:Zb p s:=⟨hr.2.2,fun k hk=>(hng k (by omega)).1 hk⟩
    refine xt (sq (sq (rg [] rfl ?_)));refine bk ?_;refine WP.loop (α:=Nat) (fun i=>aK [(2,.rp 26 (aj p)),(3,.rp 62 (encS s)),(6,.int i)] []) (fun i=>p.vars.length≤i ∧ ∀ k,k<i→k<8→RZ p s k) (fun i=>8 - i) ?_ ?_
    ·refine ⟨p.vars.length,?_,?_⟩
     ·exact ⟨Nat.le_refl _,fun k h _ h2=>by omega⟩
     ·refine em [] trivial ⟨cq,cq,cq,tt⟩ trivial
    ·rintro i ⟨hi,hn⟩;refine sq (sq (rg [] rfl ?_));refine cd rfl (fun h10=>?_) (fun h10=>?_)
     ·have hil:i<8:=by simp [-List.getD_eq_getElem?_getD]at h10;omega
      refine sk (sq (bk (sq (rgs [] rfl ?_ ?_))))
      ·simp [-List.getD_eq_getElem?_getD,ak,under];omega
      refine cd rfl (fun h12=>?_) (fun h12=>?_)
      ·refine sg rfl ?_;refine WP.ret ?_;change Fin ..;refine fin1 hT (by rfl) (Eq.symm (decide_eq_false fun h=>?_));have h3:=h.2.2.1 i hil hi
       simp [-List.getD_eq_getElem?_getD]at h12;exact h12 h3
      ·refine sk (rg [] rfl ?_);refine ⟨i+1,?_,?_,?_⟩
       ·exact ⟨by omega,all_succ (Q:=fun k=>k<8→RZ p s k) hn (fun _ _=>by simp [-List.getD_eq_getElem?_getD]at h12;exact h12)⟩
       ·refine em [] trivial ⟨cq,cq,cq,tt⟩ trivial
       ·(try simp only []);first | omega | grind
     ·have hil:8≤i:=by simp [-List.getD_eq_getElem?_getD]at h10;omega
      refine xt (sq (sq (rg [] rfl ?_)));refine bk ?_;refine WP.loop (α:=Nat) (fun j=>aK [(2,.rp 26 (aj p)),(3,.rp 62 (encS s)),(68,.int j)] []) (fun j=>j≤4 ∧ ∀ k,k<j→Nu p s k) (fun j=>4 - j) ?_ ?_
      ·refine ⟨0,?_,?_⟩
       ·exact ⟨Nat.zero_le _,fun j hj=>by omega⟩
       ·refine em [] trivial ⟨cq,cq,cq,tt⟩ trivial
      ·rintro j ⟨hj,hno⟩;refine sg rfl ?_;refine sq ?_;refine cd rfl (fun h15=>?_) (fun h15=>?_)
       ·have hjl:j<4:=by simp [-List.getD_eq_getElem?_getD]at h15;omega
        refine sk (sq (bk (sq (rg [] rfl ?_))));refine sq (drs [] rfl ?_ ?_)
        ·simp [-List.getD_eq_getElem?_getD,ak,under];omega
        refine cd rfl (fun h17=>?_) (fun h17=>?_)
        ·simp only [band,bor]at h17;refine sg rfl ?_;refine WP.ret ?_;change Fin ..;refine fin1 hT (by rfl) (Eq.symm (decide_eq_false fun h=>?_));have h3:=h.2.2.2.1 j hjl
         unfold Nu at h3;simp [-List.getD_eq_getElem?_getD]at h17;grind
        ·simp only [band,bor]at h17;refine sk (rg [] rfl ?_);refine ⟨j+1,?_,?_,?_⟩
         ·exact ⟨hjl,all_succ hno (by unfold Nu;simp [-List.getD_eq_getElem?_getD]at h17;grind)⟩
         ·refine em [] trivial ⟨cq,cq,cq,tt⟩ trivial
         ·(try simp only []);first | omega | grind
       ·have hjl:j=4:=by simp [-List.getD_eq_getElem?_getD]at h15;omega
        subst hjl;refine xt (sq (sq (rg [] rfl ?_)));refine bk ?_;refine WP.loop (α:=Nat) (fun c=>aK [(2,.rp 26 (aj p)),(3,.rp 62 (encS s)),(99,.int c)] []) (fun c=>c≤4 ∧ ∀ j,j<c→Vb p s j) (fun c=>4 - c) ?_ ?_
        ·refine ⟨0,?_,?_⟩
         ·exact ⟨Nat.zero_le _,fun j hj=>by omega⟩
         ·refine em [] trivial ⟨cq,cq,cq,tt⟩ trivial
        ·rintro c ⟨hc,hnc⟩;refine sg rfl ?_;refine sq ?_;refine cd rfl (fun h21=>?_) (fun h21=>?_)
         ·have hcl:c<4:=by simp [-List.getD_eq_getElem?_getD]at h21;omega
          refine sk (sq (bk (sq (rg [] rfl ?_))));refine sq (rgs [CG.pure (.bool (decide (vK p s c)))] rfl ?_ ?_)
          ·have hq:c<p.chans.length→_:=fun h=>Ja p s c hp hgp h;simp only [ak,under,CG.pure]
           repeat' with_reducible refine And.intro ?_ ?_
           all_goals (try with_reducible intros)
           all_goals (first | exact trivial | omega | (simp [-List.getD_eq_getElem?_getD];omega) | (refine hq ?_;simp_all;done) | (simp_all;done) | (rcases Nat.lt_or_ge c p.chans.length with hlt | hlt <;> simp_all))
          refine cd rfl (fun h23=>?_) (fun h23=>?_)
          ·simp only [band,bor,Int.toNat_natCast]at h23;rw [Vd (jh ho c)]at h23;refine sg rfl ?_;refine WP.ret ?_;change Fin ..;refine fin1 hT (by rfl) (Eq.symm (decide_eq_false fun h=>?_));have h3:=h.2.2.2.2.2.1 c hcl
           unfold Vb at h3;simp [-List.getD_eq_getElem?_getD]at h23;grind
          ·simp only [band,bor,Int.toNat_natCast]at h23;rw [Vd (jh ho c)]at h23;refine sk (rg [] rfl ?_);refine ⟨c+1,?_,?_,?_⟩
           ·exact ⟨hcl,all_succ hnc (by unfold Vb;simp [-List.getD_eq_getElem?_getD]at h23;grind)⟩
           ·refine em [] trivial ⟨cq,cq,cq,tt⟩ trivial
           ·(try simp only []);first | omega | grind
         ·have hcl:c=4:=by simp [-List.getD_eq_getElem?_getD]at h21;omega
          subst hcl;have htop:=fun g=>TY (p:=p) (s:=s) (g:=g) (fun k h1 h2=>(hnc k h1).2 h2)
          refine xt (sq (sq (rg [] rfl ?_)));refine bk ?_;refine WP.loop (α:=Nat) (fun i=>aK [(3,.rp 62 (encS s)),(9,.int i)] []) (fun i=>(i:Int)≤s.count ∧ ∀ j,j<i→Oi p s j) (fun i=>s.count.toNat - i) ?_ ?_
          ·refine ⟨0,?_,?_⟩
           ·exact ⟨by omega,fun j hj=>by omega⟩
           ·refine em [] trivial ⟨cq,cq,tt⟩ trivial
          ·rintro i ⟨hi',hni⟩;refine sq (sq (rg [] rfl ?_));refine cd rfl (fun h27=>?_) (fun h27=>?_)
           ·have hil:(i:Int)<s.count:=by simp [-List.getD_eq_getElem?_getD]at h27;omega
            refine sk (sq (bk (sq (rg [] rfl ?_))));refine sq (sq (rg [] rfl ?_));refine bk ?_;refine WP.loop (α:=Nat) (fun c=>aK [(3,.rp 62 (encS s)),(9,.int i),(10,.int (BF p s (i:Nat) c)),(136,.int c)] []) (fun c=>c≤4) (fun c=>4 - c) ?_ ?_
            ·refine ⟨0,?_,?_⟩
             ·exact Nat.zero_le _
             ·refine em [] trivial ⟨cq,cq,cq,cq,tt⟩ trivial
            ·rintro c hc;refine sg rfl ?_;refine sq ?_;refine cd rfl (fun h31=>?_) (fun h31=>?_)
             ·have hcl:c<4:=by simp [-List.getD_eq_getElem?_getD]at h31;omega
              refine sk (sq (bk (sq (rg [] rfl ?_))));refine sq (rgs [] rfl ?_ ?_)
              ·simp [-List.getD_eq_getElem?_getD,ak,under];omega
              refine cd rfl (fun h33=>?_) (fun h33=>?_)
              ·simp only [band,Int.toNat_natCast]at h33;refine rg [] rfl ?_;refine rg [] rfl ?_;have hle:=Jo p s (i:Nat) c
               refine ⟨c+1,?_,?_,?_⟩
               ·exact hcl
               ·refine em [] trivial ⟨cq,cq,⟨rfl,_,rfl,ah (by rw [htop _ c hcl,if_pos (by simp [-List.getD_eq_getElem?_getD]at h33;exact h33),bC (by omega) (by omega)];rfl)⟩,cq,tt⟩ trivial
               ·(try simp only []);first | omega | grind
              ·simp only [band,Int.toNat_natCast]at h33;refine sk (rg [] rfl ?_);refine ⟨c+1,?_,?_,?_⟩
               ·exact hcl
               ·refine em [] trivial ⟨cq,cq,⟨rfl,_,rfl,ah (by rw [htop _ c hcl,if_neg (by simp [-List.getD_eq_getElem?_getD]at h33;grind)];rfl)⟩,cq,tt⟩ trivial
               ·(try simp only []);first | omega | grind
             ·have hcl:c=4:=by simp [-List.getD_eq_getElem?_getD]at h31;omega
              subst hcl;refine xt (sq (rgs [] rfl ?_ ?_))
              ·simp [-List.getD_eq_getElem?_getD,ak,under];omega
              refine cd rfl (fun h36=>?_) (fun h36=>?_)
              ·simp only [band,Int.toNat_natCast]at h36;refine sg rfl ?_;refine WP.ret ?_;change Fin ..;refine fin1 hT (by rfl) (Eq.symm (decide_eq_false fun h=>?_));have h3:=h.2.2.2.2.2.2 i (by omega)
               unfold Oi at h3;simp [-List.getD_eq_getElem?_getD]at h36;grind
              ·simp only [band,Int.toNat_natCast]at h36;refine sk (rg [] rfl ?_);refine ⟨i+1,?_,?_,?_⟩
               ·exact ⟨by omega,all_succ hni (by unfold Oi;simp [-List.getD_eq_getElem?_getD]at h36;grind)⟩
               ·refine em [] trivial ⟨cq,cq,tt⟩ trivial
               ·(try simp only []);first | omega | grind
           ·have hil:(i:Int)=s.count:=by simp [-List.getD_eq_getElem?_getD]at h27;omega
            refine xt (sq (rg [] rfl ?_));refine WP.ret ?_;change Fin ..;refine fin1 hT (by rfl) (Eq.symm (decide_eq_true ⟨hr.1,hr.2,fun k h=>hn k (by omega) h,hno,hng,hnc,fun k hk=>?_⟩));rcases Nat.lt_or_ge k i with h | h
            ·exact hni k h
            ·intro e;rw [(hng k hk).2 (by omega)]at e;cases e
section
variable {P:Program} {T:Nat→TI} {N:Nat}
theorem AC.of_calls {f:FuncId} {xs:List Value} {r:Value} {ra:AV} (hc:callable P f) (hr:∀ (I:Imm) (ρ:Pl),jf T N I ρ ra r)
 (h:∀ w:World,(∀ (b o n:Nat),(T b).glb[o]? = some n→w.cell? ⟨b,o,none⟩=some (.int .u8 n))→Calls P f xs.toArray w fun e w'=>e = .returned r∧w'=w):AC P T N f (xs.map .v) [] ra []:=by
 refine ⟨hc,fun I ρ w vs hl hv hw=>?_⟩;have e:vs=xs:=by
  refine List.ext_getElem (by simpa using hl) fun i h1 h2=>?_;have:=hv i (.v xs[i]) vs[i] (by simp [h2]) (by simp [h1])
  exact (this.v).1
 subst e;refine (h w (fun b o n hg=>hw.imm _ _ _ (hw.gl b o n hg))).mono ?_;rintro e w' ⟨rfl,rfl⟩;exact ⟨r,I,ρ,rfl,Ev.refl _ _ _,hr I ρ,hw⟩
theorem oU (hT:TOK P T N) {nt k j t i:Nat} {st:St} {y:AV} {a e:Int} {B:Blk} (h:st.t k=some (.always,.ptr (.s j 0) 1 0 [])) (h2:st.t i=some (.always,.int a)) (hm:st.m (.s j 0)=some (.cells B)) (hy:Conv st.m (fun id=>dP id []) T (B.get 0) y) (he:a=e)
 (hno:eG y=true:=by rfl) (hok:fB [.s j 0] y=true:=by rfl) (hnt:nO y=true:=by rfl) (hik:Nat.beq i k=false:=by rfl) (hty:B.ty=t:=by rfl) (hn:B.n=1:=by rfl) (hfz:B.fz=0:=by rfl):Fin T N nt 0 [.cell k t,.tmp i] (.tup [y,.int e]) [] st:=by
 obtain ⟨ty,n,get,fz⟩:=B;simp only at hty hn hfz hy;subst hty hn hfz he;refine Fin.ent (Ent.mk (P:=P) hT [] (ts:=[(k,.ptr (.s j 0) 1 0 []),(i,.int a)]) (ms:=[(.s j 0,.cells ⟨ty,1,fun _=>y,0⟩)]) trivial ⟨⟨by simp [fB,iI,aI],_,h,ah rfl⟩,⟨rfl,_,h2,ah rfl⟩,tt⟩ ⟨⟨fun _ _=>hok,.inl ⟨_,hm,_,_,rfl,Nat.le_refl _,Nat.zero_le _,Nat.zero_le _,q0 hy⟩⟩,tt⟩ rfl) ?_;have h1:(aK [(k,AV.ptr (.s j 0) 1 0 []),(i,.int a)] [(.s j 0,Ob.cells ⟨ty,1,fun _=>y,0⟩)]).m (.s j 0)=some (.cells ⟨ty,1,fun _=>y,0⟩):=by simp [aK,ni,aI]
 have hkk:Nat.beq k k=true:=by simp
 have hii:Nat.beq i i=true:=by simp
 refine aJ hT [(.s j 0,1)] (ts:=[(k,.rp ty y),(i,.int a)]) (l:=[y,.int a]) ⟨⟨_,h1,Nat.le_refl _⟩,tt⟩ ⟨⟨rfl,.ptr (.s j 0) 1 0 [],by simp only [aK,lZ,hkk];rfl,?_⟩,⟨rfl,_,by simp only [aK,lZ,hik,hii];rfl,ah rfl⟩,tt⟩ trivial rfl ?_ rfl
 ·exact aZ h1 rfl (by simp [dP,aI]) rfl (by show y.at []=y;cases y <;> rfl) hno
 ·simp only [FU,aK,lZ,hkk,hii,hik,cond_true,cond_false,Option.map_some,ldA,Ih,aT,nOf,hnt];have ht:Nat.beq ty ty=true:=by simp
  simp [ldA,ht,show nO (AV.int a)=true from rfl,nOf,iD,hnt]
theorem wF (hT:TOK P T N) {nt k j t k' j' t' i:Nat} {st:St} {y y':AV} {a e:Int} {B B':Blk} (h:st.t k=some (.always,.ptr (.s j 0) 1 0 [])) (h':st.t k'=some (.always,.ptr (.s j' 0) 1 0 [])) (h2:st.t i=some (.always,.int a)) (hm:st.m (.s j 0)=some (.cells B)) (hm':st.m (.s j' 0)=some (.cells B'))
 (hy:Conv st.m (fun id=>dP id []) T (B.get 0) y) (hy':Conv st.m (fun id=>dP id []) T (B'.get 0) y') (he:a=e)
 (hno:eG y=true:=by rfl) (hok:fB [.s j 0,.s j' 0] y=true:=by rfl) (hnt:nO y=true:=by rfl) (hno':eG y'=true:=by rfl) (hok':fB [.s j 0,.s j' 0] y'=true:=by rfl) (hnt':nO y'=true:=by rfl) (hik:Nat.beq i k=false:=by rfl) (hik':Nat.beq i k'=false:=by rfl) (hkk':Nat.beq k' k=false:=by rfl) (hjj:Nat.beq j' j=false:=by rfl)
 (hty:B.ty=t:=by rfl) (hn:B.n=1:=by rfl) (hfz:B.fz=0:=by rfl) (hty':B'.ty=t':=by rfl) (hn':B'.n=1:=by rfl) (hfz':B'.fz=0:=by rfl):Fin T N nt 0 [.cell k t,.cell k' t',.tmp i] (.tup [y,y',.int e]) [] st:=by
 obtain ⟨ty,n,get,fz⟩:=B;obtain ⟨ty',n',get',fz'⟩:=B';simp only at hty hn hfz hy hty' hn' hfz' hy';subst hty hn hfz he hty' hn' hfz';have hkk:Nat.beq k k=true:=by simp
 have hkk2:Nat.beq k' k'=true:=by simp
 have hii:Nat.beq i i=true:=by simp
 have hs1:Id.beq (.s j 0) (.s j 0)=true:=aI _;have hs2:Id.beq (.s j' 0) (.s j' 0)=true:=aI _
 have hs3:Id.beq (.s j' 0) (.s j 0)=false:=by simp [Id.beq,hjj]
 refine Fin.ent (Ent.mk (P:=P) hT [] (ts:=[(k,.ptr (.s j 0) 1 0 []),(k',.ptr (.s j' 0) 1 0 []),(i,.int a)]) (ms:=[(.s j 0,.cells ⟨ty,1,fun _=>y,0⟩),(.s j' 0,.cells ⟨ty',1,fun _=>y',0⟩)]) trivial ⟨⟨by simp [fB,iI,aI],_,h,ah rfl⟩,⟨by simp [fB,iI,aI],_,h',ah rfl⟩,⟨rfl,_,h2,ah rfl⟩,tt⟩
  ⟨⟨fun _ _=>hok,.inl ⟨_,hm,_,_,rfl,Nat.le_refl _,Nat.zero_le _,Nat.zero_le _,q0 hy⟩⟩,⟨fun _ _=>hok',.inl ⟨_,hm',_,_,rfl,Nat.le_refl _,Nat.zero_le _,Nat.zero_le _,q0 hy'⟩⟩,tt⟩ rfl) ?_
 have h1:(aK [(k,AV.ptr (.s j 0) 1 0 []),(k',.ptr (.s j' 0) 1 0 []),(i,.int a)] [(.s j 0,Ob.cells ⟨ty,1,fun _=>y,0⟩),(.s j' 0,Ob.cells ⟨ty',1,fun _=>y',0⟩)]).m (.s j 0)=some (.cells ⟨ty,1,fun _=>y,0⟩):=by simp only [aK,ni,hs1];rfl
 have h3:(aK [(k,AV.ptr (.s j 0) 1 0 []),(k',.ptr (.s j' 0) 1 0 []),(i,.int a)] [(.s j 0,Ob.cells ⟨ty,1,fun _=>y,0⟩),(.s j' 0,Ob.cells ⟨ty',1,fun _=>y',0⟩)]).m (.s j' 0)=some (.cells ⟨ty',1,fun _=>y',0⟩):=by simp only [aK,ni,hs2,hs3];rfl
 refine aJ hT [(.s j 0,1),(.s j' 0,1)] (ts:=[(k,.rp ty y),(k',.rp ty' y'),(i,.int a)]) (l:=[y,y',.int a]) ⟨⟨_,h1,Nat.le_refl _⟩,⟨_,h3,Nat.le_refl _⟩,tt⟩
  ⟨⟨rfl,.ptr (.s j 0) 1 0 [],by simp only [aK,lZ,hkk];rfl,?_⟩,⟨rfl,.ptr (.s j' 0) 1 0 [],by simp only [aK,lZ,hkk',hkk2];rfl,?_⟩,⟨rfl,_,by simp only [aK,lZ,hik,hik',hii];rfl,ah rfl⟩,tt⟩ trivial rfl ?_ rfl
 ·exact aZ h1 rfl (by simp [dP,aI]) rfl (by show y.at []=y;cases y <;> rfl) hno
 ·exact aZ h3 rfl (by simp [dP,hs3,aI]) rfl (by show y'.at []=y';cases y' <;> rfl) hno'
 ·have ht:Nat.beq ty ty=true:=by simp
  have ht':Nat.beq ty' ty'=true:=by simp
  simp only [FU,aK,lZ,hkk,hkk2,hkk',hii,hik,hik',cond_true,cond_false,Option.map_some];simp [ldA,ht,ht',show nO (AV.int a)=true from rfl,nOf,iD,hnt,hnt']
end
end Go.Ab
