/- Part 16 of a proof of a statement about the given program: an abstract machine over the model, proved sound, and contracts of the functions that the statement reaches; the last part proves the statement, for every input, with no condition. -/
import Derived.Test.YtcfelhfcjdofoaaGreatDoorX14
import Derived.Test.YtcfelhfcjdofoaaGreatDoorX13
set_option autoImplicit false
set_option linter.unusedSimpArgs false
set_option linter.unusedVariables false
set_option maxHeartbeats 4000000
set_option maxRecDepth 20000
namespace Go.Ab
open Go.Proofs
def ints (f:Bool) (l:List Int):AV := .row 3 f l.length (λi => .int (l.getD i 0))
theorem bf {P:Program} {T:Nat->TI} {N nt:Nat} (hT:ji P T N) {t:Nat->Option (D×AV)} {m:Id->Option Ob} {k:Nat} {b r:Int} (h:t k=some (.always,.v (.int .i64 b))) (e:b=r):Fin T N nt 0 [.tmp k] (.int r) [] ⟨t,m⟩:=by
 subst e;refine ⟨[(k,.int b)],xu.mk hT [] trivial ⟨⟨rfl,_,h,ah rfl⟩,tt⟩ trivial rfl,([.int b],none),?_,trivial,rfl⟩;simp [Ae,aN,oz,rW]
theorem fG (a b:Bool):(bif a then true else b)=(a||b):=by cases a <;> rfl
theorem band (a b:Bool):(bif a then b else false)=(a&&b):=by cases a <;> rfl
structure aaZ where
 atomic:Bool
 init:Int
structure iG where
 op:Int
 a:Int
 b:Int
 c:Int
 n:Int
structure zK where
 send:Bool
 chan:Int
 reg:Int
 to:Int
structure rZ where
 cases:List zK
 els:Int
structure gq where
 params:Int
 regs:Int
 code:List iG
 sels:List rZ
structure ak where
 vars:List aaZ
 locks:Int
 chans:List Int
 funcs:List gq
def Ez (x:aaZ):AV:=bC 116 [.bool x.atomic,.int x.init]
def aQ (x:iG):AV:=bC 120 [.int x.op,.int x.a,.int x.b,.int x.c,.int x.n]
def pz (x:zK):AV:=bC 215 [.bool x.send,.int x.chan,.int x.reg,.int x.to]
def rowP {α:Type} (t:Nat) (enc:α->AV) (d:α) (l:List α):AV := .row t false l.length (λi=>enc (l.getD i d))
def DC:zK:=⟨false,0,0,0⟩
def gB (x:rZ):AV:=bC 103 [rowP 215 pz DC x.cases,.int x.els]
def mZ:iG:=⟨0,0,0,0,0⟩
def qE:rZ:=⟨[],0⟩
def dQ (x:gq):AV:=bC 100 [.int x.params,.int x.regs,rowP 120 aQ mZ x.code,rowP 103 gB qE x.sels]
def Jd:aaZ:=⟨false,0⟩
def jI:gq:=⟨0,0,[],[]⟩
def aj (x:ak):AV:=bC 26 [rowP 116 Ez Jd x.vars,.int x.locks,ints false x.chans,rowP 100 dQ jI x.funcs]
def zF (p:ak) (f:gq):AV:=bC 257 [aj p,dQ f]
def dI (n most:Int):Bool:=decide (n>=0)&&decide (n<most)
theorem DT (n m:Int):AC Tryz.prog T aH 260 [.int n,.int m] [] (.bool (dI n m)) []:=by
 refine aX Tryz.func260 ?_;refine sg rfl (sg rfl ?_);refine rX ?_;exact fin1 hT (by rfl) (by rw [band];rfl)
theorem iZ (n m:Int):AC Tryz.prog T aH 150 [.int n,.int m] [] (.bool (dI n m)) []:=by
 refine aX Tryz.func150 ?_;refine sg rfl (sg rfl ?_);refine rX ?_;exact fin1 hT (by rfl) (by rw [band];rfl)
def dN (n most:Int):Int:=if dI n most then 0 else 36
def eY (f:gq) (n:Int):Int:=if dI n f.regs then 0 else 35
def eG (f:gq) (n:Int):Int:=if dI n f.code.length then 0 else 38
theorem qP (n m:Int):AC Tryz.prog T aH 212 [.int n,.int m] [] (.int (dN n m)) []:=by
 refine aX Tryz.func212 ?_;refine sg rfl (sq (sq (rgs [CG.pure (.bool (dI n m))] rfl ?_ ?_)))
 ·exact DT n m
 refine cd rfl (λa=>?_) (λa=>?_)
 ·(have h:dI n m=false:=by simpa using a);exact sg rfl (WP.ret (bf hT (by rfl) (by simp [dN,h])))
 (have h:dI n m=true:=by simpa using a);refine sk (sq (rg [] rfl ?_));exact WP.ret (bf hT (by rfl) (by simp [dN,h]))
theorem uX (p:ak) (f:gq) (n:Int):AC Tryz.prog T aH 213 [.rp 257 (zF p f),.int n] [] (.int (eY f n)) []:=by
 refine aX Tryz.func213 ?_;refine sg rfl (sq (sq (rgs [CG.pure (.bool (dI n f.regs))] rfl ?_ ?_)))
 ·exact DT n f.regs
 refine cd rfl (λa=>?_) (λa=>?_)
 ·(have h:dI n f.regs=false:=by simpa using a);exact sg rfl (WP.ret (bf hT (by rfl) (by simp [eY,h])))
 (have h:dI n f.regs=true:=by simpa using a);refine sk (sq (rg [] rfl ?_));exact WP.ret (bf hT (by rfl) (by simp [eY,h]))
theorem zM (p:ak) (f:gq) (n:Int):AC Tryz.prog T aH 214 [.rp 257 (zF p f),.int n] [] (.int (eG f n)) []:=by
 refine aX Tryz.func214 ?_;refine sg rfl (sq (sq (rgs [CG.pure (.bool (dI n f.code.length))] rfl ?_ ?_)))
 ·exact DT n f.code.length
 refine cd rfl (λa=>?_) (λa=>?_)
 ·(have h:dI n f.code.length=false:=by simpa using a);exact sg rfl (WP.ret (bf hT (by rfl) (by simp [eG,h])))
 (have h:dI n f.code.length=true:=by simpa using a);refine sk (sq (rg [] rfl ?_));exact WP.ret (bf hT (by rfl) (by simp [eG,h]))
def kM (f:gq) (n k:Int):Int:=if (k==0&&n != 0)||(decide (k>0)&&(decide (n<0)||decide (n>IntKind.i64.wrap (f.regs - k))))then 35 else 0
def dw (p:ak) (n:Int):Int:=if dI n p.vars.length then (if (p.vars.getD n.toNat Jd).atomic then 0 else 37)else 36
def aP (p:ak) (f:gq) (c n:Int) (x:iG):Int :=
 if c=111 then (if n = -1 then 0 else eY f n)else if c=114 then eY f n else if c=119 then eY f n else
 if c=118 then dN n p.vars.length else if c=97 then dw p n else if c=108 then dN n p.locks else
 if c=99 then dN n p.chans.length else if c=115 then dN n f.sels.length else if c=102 then dN n p.funcs.length else
 if c=116 then eG f n else if c=112 then kM f n (p.funcs.getD x.b.toNat jI).params else 0
theorem rC {n m:Int} (h:dN n m=0):0<=n/\n<m:=by
 unfold dN at h;split at h
 ·rename_i hw;simpa [dI]using hw
 cases h
theorem QK (p:ak) (f:gq) (c n:Int) (x:iG) (hx:c=112->0<=x.b/\x.b<p.funcs.length):AC Tryz.prog T aH 217 [.rp 257 (zF p f),.v (.int .u8 c),.int n,aQ x] [] (.int (aP p f c n x)) []:=by
 refine aX Tryz.func217 ?_;refine sg rfl (sq (sq (rg [] rfl ?_)));refine bk (sq (rg [] rfl ?_));refine cd rfl (λr=>?_) (λr=>?_)
 ·refine sq (sq (rg [] rfl ?_));refine cd rfl (λs=>?_) (λs=>?_);{refine sg rfl (rX ?_);refine bf hT (by rfl) ?_;first | (simp_all [aP];done) | (simp_all [aP,dw,dN];done) | (simp_all [aP,dw,dN,kM,fG,band];done)};refine sk (sq (rgs [CG.pure (.int (eY f n))] rfl ?_ ?_));{exact uX p f n};refine rX ?_;refine bf hT (by rfl) ?_;first | (simp_all [aP];done) | (simp_all [aP,dw,dN];done) | (simp_all [aP,dw,dN,kM,fG,band];done)
 refine sq (sq (rg [] rfl ?_));refine cd rfl (λq=>?_) (λq=>?_);{refine sk (cd rfl (λq=>?_) (λq=>?_));{refine sq (rgs [CG.pure (.int (eY f n))] rfl ?_ ?_);{exact uX p f n};refine rX ?_;refine bf hT (by rfl) ?_;first | (simp_all [aP];done) | (simp_all [aP,dw,dN];done) | (simp_all [aP,dw,dN,kM,fG,band];done)};simp_all};refine rg [] rfl (cd rfl (λt=>?_) (λt=>?_));{refine sq (rgs [CG.pure (.int (eY f n))] rfl ?_ ?_);{exact uX p f n};refine rX ?_;refine bf hT (by rfl) ?_;first | (simp_all [aP];done) | (simp_all [aP,dw,dN];done) | (simp_all [aP,dw,dN,kM,fG,band];done)};refine sg rfl (cd rfl (λu=>?_) (λu=>?_));{refine sq (sq (rgs [CG.pure (.int (dN n p.vars.length))] rfl ?_ ?_));{exact qP n p.vars.length};refine sg rfl (cd rfl (λe=>?_) (λe=>?_));{refine sg rfl (rX ?_);refine bf hT (by rfl) ?_;first | (simp_all [aP];done) | (simp_all [aP,dw,dN];done) | (simp_all [aP,dw,dN,kM,fG,band];done)};refine sk (sq (rg [] rfl ?_));refine rX ?_;refine bf hT (by rfl) ?_;first | (simp_all [aP];done) | (simp_all [aP,dw,dN];done) | (simp_all [aP,dw,dN,kM,fG,band];done)};refine sg rfl (cd rfl (λg=>?_) (λg=>?_));{refine sq (sq (rgs [CG.pure (.int (dN n p.vars.length))] rfl ?_ ?_));{exact qP n p.vars.length};refine sg rfl (cd rfl (λa=>?_) (λa=>?_));{refine sg rfl (rX ?_);refine bf hT (by rfl) ?_;first | (simp_all [aP];done) | (simp_all [aP,dw,dN];done) | (simp_all [aP,dw,dN,kM,fG,band];done)};have w:=rC (show dN n p.vars.length=0 by simpa using a);refine sk (sq (rgs [] rfl ?_ ?_));{simp [ay,under];omega};refine cd rfl (λh=>?_) (λh=>?_);{refine sg rfl (rX ?_);refine bf hT (by rfl) ?_;first | (simp_all [aP];done) | (simp_all [aP,dw,dN];done) | (simp_all [aP,dw,dN,kM,fG,band];done)};refine sk (sq (rg [] rfl ?_));refine rX ?_;refine bf hT (by rfl) ?_;first | (simp_all [aP];done) | (simp_all [aP,dw,dN];done) | (simp_all [aP,dw,dN,kM,fG,band];done)};refine sg rfl (cd rfl (λi=>?_) (λi=>?_));{refine sq (rgs [CG.pure (.int (dN n p.locks))] rfl ?_ ?_);{exact qP n p.locks};refine rX ?_;refine bf hT (by rfl) ?_;first | (simp_all [aP];done) | (simp_all [aP,dw,dN];done) | (simp_all [aP,dw,dN,kM,fG,band];done)};refine sg rfl (cd rfl (λj=>?_) (λj=>?_));{refine sq (rgs [CG.pure (.int (dN n p.chans.length))] rfl ?_ ?_);{exact qP n p.chans.length};refine rX ?_;refine bf hT (by rfl) ?_;first | (simp_all [aP];done) | (simp_all [aP,dw,dN];done) | (simp_all [aP,dw,dN,kM,fG,band];done)};refine sg rfl (cd rfl (λk=>?_) (λk=>?_));{refine sq (rgs [CG.pure (.int (dN n f.sels.length))] rfl ?_ ?_);{exact qP n f.sels.length};refine rX ?_;refine bf hT (by rfl) ?_;first | (simp_all [aP];done) | (simp_all [aP,dw,dN];done) | (simp_all [aP,dw,dN,kM,fG,band];done)};refine sg rfl (cd rfl (λl=>?_) (λl=>?_));{refine sq (rgs [CG.pure (.int (dN n p.funcs.length))] rfl ?_ ?_);{exact qP n p.funcs.length};refine rX ?_;refine bf hT (by rfl) ?_;first | (simp_all [aP];done) | (simp_all [aP,dw,dN];done) | (simp_all [aP,dw,dN,kM,fG,band];done)};refine sg rfl (cd rfl (λm=>?_) (λm=>?_));{refine sq (rgs [CG.pure (.int (eG f n))] rfl ?_ ?_);{exact zM p f n};refine rX ?_;refine bf hT (by rfl) ?_;first | (simp_all [aP];done) | (simp_all [aP,dw,dN];done) | (simp_all [aP,dw,dN,kM,fG,band];done)};refine sg rfl (cd rfl (λd=>?_) (λd=>?_));{have hb:=hx (by simpa using d);refine sq (drs [] rfl ?_ ?_);{simp [ay,under];omega};refine sg rfl (cd rfl (λo=>?_) (λo=>?_));{refine sg rfl (rX ?_);refine bf hT (by rfl) ?_;first | (simp_all [aP];done) | (simp_all [aP,dw,dN];done) | (simp_all [aP,dw,dN,kM,fG,band];done)};refine sk (sq (rg [] rfl ?_));refine rX ?_;refine bf hT (by rfl) ?_;first | (simp_all [aP];done) | (simp_all [aP,dw,dN];done) | (simp_all [aP,dw,dN,kM,fG,band];done)};refine sk (sq (rg [] rfl ?_));refine rX ?_;refine bf hT (by rfl) ?_;first | (simp_all [aP];done) | (simp_all [aP,dw,dN];done) | (simp_all [aP,dw,dN,kM,fG,band];done)
theorem Oa (p:ak) (f:gq) (c n:Int) (x:iG) (hx:c=112->0<=x.b/\x.b<p.funcs.length):AC Tryz.prog T aH 153 [aj p,dQ f,.v (.int .u8 c),.int n,aQ x] [] (.int (aP p f c n x)) []:=by
 refine aX Tryz.func153 ?_;refine sg rfl (sq (sq (rg [] rfl ?_)));refine bk (sq (sq (rg [] rfl ?_)));refine cd rfl (λk=>?_) (λk=>?_)
 ·refine sk (cd rfl (λk=>?_) (λk=>?_));{refine sq (rgs [CG.pure (.bool (dI n f.regs))] rfl ?_ ?_);{simp [ay,under,CG.pure];exact iZ n f.regs};refine cd rfl (λz=>?_) (λz=>?_);{refine sg rfl (rX ?_);refine bf hT (by rfl) ?_;first | (simp_all [aP,eY,eG];done) | (simp_all [aP,dw,dN,eY,eG];done) | (simp_all [aP,dw,dN,kM,fG,band,eY,eG];done)};refine sk (sq (rg [] rfl ?_));refine rX ?_;refine bf hT (by rfl) ?_;first | (simp_all [aP,eY,eG];done) | (simp_all [aP,dw,dN,eY,eG];done) | (simp_all [aP,dw,dN,kM,fG,band,eY,eG];done)};simp_all
 refine rg [] rfl (cd rfl (λh3=>?_) (λh3=>?_));{refine sq (rgs [CG.pure (.bool (dI n f.regs))] rfl ?_ ?_);{simp [ay,under,CG.pure];exact iZ n f.regs};refine cd rfl (λz=>?_) (λz=>?_);{refine sg rfl (rX ?_);refine bf hT (by rfl) ?_;first | (simp_all [aP,eY,eG];done) | (simp_all [aP,dw,dN,eY,eG];done) | (simp_all [aP,dw,dN,kM,fG,band,eY,eG];done)};refine sk (sq (rg [] rfl ?_));refine rX ?_;refine bf hT (by rfl) ?_;first | (simp_all [aP,eY,eG];done) | (simp_all [aP,dw,dN,eY,eG];done) | (simp_all [aP,dw,dN,kM,fG,band,eY,eG];done)};refine sg rfl (cd rfl (λh6=>?_) (λh6=>?_));{refine sq (rgs [CG.pure (.bool (dI n f.regs))] rfl ?_ ?_);{have hw:=iZ n f.regs;simp [ay,under,CG.pure];exact λ_=>hw};refine cd rfl (λh7=>?_) (λh7=>?_);{refine sg rfl (rX ?_);refine bf hT (by rfl) ?_;first | (simp_all [aP,eY,eG];done) | (simp_all [aP,dw,dN,eY,eG];done) | (simp_all [aP,dw,dN,kM,fG,band,eY,eG];done)};refine sk (sq (rg [] rfl ?_));refine rX ?_;refine bf hT (by rfl) ?_;first | (simp_all [aP,eY,eG];done) | (simp_all [aP,dw,dN,eY,eG];done) | (simp_all [aP,dw,dN,kM,fG,band,eY,eG];done)};refine sg rfl (cd rfl (λh9=>?_) (λh9=>?_));{have hb:=hx (by simpa using h9);refine sq (rgs [] rfl ?_ ?_);{simp [ay,under];omega};refine sg rfl (cd rfl (λd=>?_) (λd=>?_));{refine sg rfl (rX ?_);refine bf hT (by rfl) ?_;first | (simp_all [aP,eY,eG];done) | (simp_all [aP,dw,dN,eY,eG];done) | (simp_all [aP,dw,dN,kM,fG,band,eY,eG];done)};refine sk (sq (rg [] rfl ?_));refine rX ?_;refine bf hT (by rfl) ?_;first | (simp_all [aP,eY,eG];done) | (simp_all [aP,dw,dN,eY,eG];done) | (simp_all [aP,dw,dN,kM,fG,band,eY,eG];done)};refine sg rfl (cd rfl (λg=>?_) (λg=>?_));{refine sq (rgs [CG.pure (.bool (dI n p.vars.length))] rfl ?_ ?_);{have hw:=iZ n p.vars.length;simp [ay,under,CG.pure];exact hw};refine cd rfl (λh=>?_) (λh=>?_);{refine sg rfl (rX ?_);refine bf hT (by rfl) ?_;first | (simp_all [aP,eY,eG];done) | (simp_all [aP,dw,dN,eY,eG];done) | (simp_all [aP,dw,dN,kM,fG,band,eY,eG];done)};refine sk (sq (rg [] rfl ?_));refine rX ?_;refine bf hT (by rfl) ?_;first | (simp_all [aP,eY,eG];done) | (simp_all [aP,dw,dN,eY,eG];done) | (simp_all [aP,dw,dN,kM,fG,band,eY,eG];done)};refine sg rfl (cd rfl (λi=>?_) (λi=>?_));{refine sq (sq (rgs [CG.pure (.bool (dI n p.vars.length))] rfl ?_ ?_));{have hw:=iZ n p.vars.length;simp [ay,under,CG.pure];exact hw};refine cd rfl (λa=>?_) (λa=>?_);{refine sg rfl (rX ?_);refine bf hT (by rfl) ?_;first | (simp_all [aP,eY,eG];done) | (simp_all [aP,dw,dN,eY,eG];done) | (simp_all [aP,dw,dN,kM,fG,band,eY,eG];done)};(have hv:0<=n/\n<p.vars.length:=by(have e:dI n p.vars.length=true:=by simpa using a);simpa [dI]using e);refine sk (sq (rgs [] rfl ?_ ?_));{simp [ay,under];omega};refine cd rfl (λj=>?_) (λj=>?_);{refine sg rfl (rX ?_);refine bf hT (by rfl) ?_;first | (simp_all [aP,eY,eG];done) | (simp_all [aP,dw,dN,eY,eG];done) | (simp_all [aP,dw,dN,kM,fG,band,eY,eG];done)};refine sk (sq (rg [] rfl ?_));refine rX ?_;refine bf hT (by rfl) ?_;first | (simp_all [aP,eY,eG];done) | (simp_all [aP,dw,dN,eY,eG];done) | (simp_all [aP,dw,dN,kM,fG,band,eY,eG];done)};refine sg rfl (cd rfl (λl=>?_) (λl=>?_));{refine sq (rgs [CG.pure (.bool (dI n p.locks))] rfl ?_ ?_);{have hw:=iZ n p.locks;simp [ay,under,CG.pure];exact hw};refine cd rfl (λm=>?_) (λm=>?_);{refine sg rfl (rX ?_);refine bf hT (by rfl) ?_;first | (simp_all [aP,eY,eG];done) | (simp_all [aP,dw,dN,eY,eG];done) | (simp_all [aP,dw,dN,kM,fG,band,eY,eG];done)};refine sk (sq (rg [] rfl ?_));refine rX ?_;refine bf hT (by rfl) ?_;first | (simp_all [aP,eY,eG];done) | (simp_all [aP,dw,dN,eY,eG];done) | (simp_all [aP,dw,dN,kM,fG,band,eY,eG];done)};refine sg rfl (cd rfl (λo=>?_) (λo=>?_));{refine sq (rgs [CG.pure (.bool (dI n p.chans.length))] rfl ?_ ?_);{have hw:=iZ n p.chans.length;simp [ay,under,CG.pure];exact hw};refine cd rfl (λq=>?_) (λq=>?_);{refine sg rfl (rX ?_);refine bf hT (by rfl) ?_;first | (simp_all [aP,eY,eG];done) | (simp_all [aP,dw,dN,eY,eG];done) | (simp_all [aP,dw,dN,kM,fG,band,eY,eG];done)};refine sk (sq (rg [] rfl ?_));refine rX ?_;refine bf hT (by rfl) ?_;first | (simp_all [aP,eY,eG];done) | (simp_all [aP,dw,dN,eY,eG];done) | (simp_all [aP,dw,dN,kM,fG,band,eY,eG];done)};refine sg rfl (cd rfl (λr=>?_) (λr=>?_));{refine sq (rgs [CG.pure (.bool (dI n f.sels.length))] rfl ?_ ?_);{have hw:=iZ n f.sels.length;simp [ay,under,CG.pure];exact hw};refine cd rfl (λs=>?_) (λs=>?_);{refine sg rfl (rX ?_);refine bf hT (by rfl) ?_;first | (simp_all [aP,eY,eG];done) | (simp_all [aP,dw,dN,eY,eG];done) | (simp_all [aP,dw,dN,kM,fG,band,eY,eG];done)};refine sk (sq (rg [] rfl ?_));refine rX ?_;refine bf hT (by rfl) ?_;first | (simp_all [aP,eY,eG];done) | (simp_all [aP,dw,dN,eY,eG];done) | (simp_all [aP,dw,dN,kM,fG,band,eY,eG];done)};refine sg rfl (cd rfl (λt=>?_) (λt=>?_));{refine sq (rgs [CG.pure (.bool (dI n p.funcs.length))] rfl ?_ ?_);{have hw:=iZ n p.funcs.length;simp [ay,under,CG.pure];exact hw};refine cd rfl (λu=>?_) (λu=>?_);{refine sg rfl (rX ?_);refine bf hT (by rfl) ?_;first | (simp_all [aP,eY,eG];done) | (simp_all [aP,dw,dN,eY,eG];done) | (simp_all [aP,dw,dN,kM,fG,band,eY,eG];done)};refine sk (sq (rg [] rfl ?_));refine rX ?_;refine bf hT (by rfl) ?_;first | (simp_all [aP,eY,eG];done) | (simp_all [aP,dw,dN,eY,eG];done) | (simp_all [aP,dw,dN,kM,fG,band,eY,eG];done)};refine sg rfl (cd rfl (λw=>?_) (λw=>?_));{refine sq (rgs [CG.pure (.bool (dI n f.code.length))] rfl ?_ ?_);{have hw:=iZ n f.code.length;simp [ay,under,CG.pure];exact hw};refine cd rfl (λy=>?_) (λy=>?_);{refine sg rfl (rX ?_);refine bf hT (by rfl) ?_;first | (simp_all [aP,eY,eG];done) | (simp_all [aP,dw,dN,eY,eG];done) | (simp_all [aP,dw,dN,kM,fG,band,eY,eG];done)};refine sk (sq (rg [] rfl ?_));refine rX ?_;refine bf hT (by rfl) ?_;first | (simp_all [aP,eY,eG];done) | (simp_all [aP,dw,dN,eY,eG];done) | (simp_all [aP,dw,dN,kM,fG,band,eY,eG];done)};refine sk (sq (rg [] rfl ?_));refine rX ?_;refine bf hT (by rfl) ?_;first | (simp_all [aP,eY,eG];done) | (simp_all [aP,dw,dN,eY,eG];done) | (simp_all [aP,dw,dN,kM,fG,band,eY,eG];done)
theorem jT {P:Program} {T:Nat->TI} {N nt:Nat} (hT:ji P T N) {t:Nat->Option (D×AV)} {m:Id->Option Ob} {k:Nat} {b r:ByteArray} (h:t k=some (.always,.v (.string b))) (e:b=r):Fin T N nt 0 [.tmp k] (.v (.string r)) [] ⟨t,m⟩:=by
 subst e;refine ⟨[(k,.v (.string b))],xu.mk hT [] trivial ⟨⟨rfl,_,h,ah rfl⟩,tt⟩ trivial rfl,([.v (.string b)],none),?_,trivial,rfl⟩;simp [Ae,aN,oz,rW]
def jZ (op:Int):List UInt8 :=
 if 1<=op/\op<=15 then [114,114,45,45]else if 16<=op/\op<=36 then [114,114,114,45]else
 if op=40\/op=44\/op=65 then [114,45,45,110]else if op=41 then [114,114,45,45]else if op=42 then [116,45,45,45]else
 if op=43 then [114,116,45,45]else if op=45\/op=64 then [45,45,45,45]else if op=50 then [114,118,45,45]else
 if op=51 then [118,114,45,45]else if op=52 then [111,97,114,45]else if op=53 then [114,97,114,119]else
 if op=54 then [97,114,45,45]else if op=55\/op=56 then [108,45,45,45]else if op=57 then [114,108,45,45]else
 if op=58 then [99,114,45,45]else if op=59 then [111,99,111,45]else if op=60 then [99,45,45,45]else
 if op=61 then [115,45,45,45]else if op=62 then [111,102,112,45]else if op=63 then [114,45,45,45]else []
def oH (op:Int):ByteArray:=⟨(jZ op).toArray⟩
theorem bT {op:Int} {l:List UInt8} (h:jZ op=l):(⟨l.toArray⟩:ByteArray)=oH op:=by rw [oH,h]
theorem fm {Q:Prop} (h:Q:=by
 simp only [band,abf,ae3,acf,acD,adk,aco]at *;unfold jZ;all_goals (repeat (first | rfl | (rw [xw (by omega)]) | (rw [aa2 (by omega)])))):Q:=h
theorem aaG (op:Int):AC Tryz.prog T aH 215 [.int op] [] (.v (.string (oH op))) []:=by
 refine aX Tryz.func215 ?_;refine sg rfl (sq (bk (sq (rg [] rfl ?_))));refine cd rfl (λw=>?_) (λw=>?_)
 ·exact sg rfl (WP.ret (jT hT (by rfl) (bT fm)))
 refine sg rfl (cd rfl (λx=>?_) (λx=>?_));{exact sg rfl (WP.ret (jT hT (by rfl) (bT fm)))};refine sk (sq (sq (rg [] rfl ?_)));refine bk (sq (sq (rg [] rfl ?_)));refine cd rfl (λt=>?_) (λt=>?_);{refine sk (cd rfl (λt=>?_) (λt=>?_));{exact sg rfl (WP.ret (jT hT (by rfl) (bT fm)))};simp_all};refine sg rfl (cd rfl (λu=>?_) (λu=>?_));{refine sk (cd rfl (λu=>?_) (λu=>?_));{exact sg rfl (WP.ret (jT hT (by rfl) (bT fm)))};simp_all};refine rg [] rfl (cd rfl (λy=>?_) (λy=>?_));{exact sg rfl (WP.ret (jT hT (by rfl) (bT fm)))};refine sg rfl (cd rfl (λc=>?_) (λc=>?_));{exact sg rfl (WP.ret (jT hT (by rfl) (bT fm)))};refine sg rfl (cd rfl (λd=>?_) (λd=>?_));{exact sg rfl (WP.ret (jT hT (by rfl) (bT fm)))};refine sg rfl (cd rfl (λe=>?_) (λe=>?_));{exact sg rfl (WP.ret (jT hT (by rfl) (bT fm)))};refine sq (sq (rg [] rfl ?_));refine cd rfl (λa=>?_) (λa=>?_);{refine sk (cd rfl (λa=>?_) (λa=>?_));{exact sg rfl (WP.ret (jT hT (by rfl) (bT fm)))};simp_all};refine rg [] rfl (cd rfl (λf=>?_) (λf=>?_));{exact sg rfl (WP.ret (jT hT (by rfl) (bT fm)))};refine sg rfl (cd rfl (λg=>?_) (λg=>?_));{exact sg rfl (WP.ret (jT hT (by rfl) (bT fm)))};refine sg rfl (cd rfl (λh=>?_) (λh=>?_));{exact sg rfl (WP.ret (jT hT (by rfl) (bT fm)))};refine sg rfl (cd rfl (λi=>?_) (λi=>?_));{exact sg rfl (WP.ret (jT hT (by rfl) (bT fm)))};refine sg rfl (cd rfl (λj=>?_) (λj=>?_));{exact sg rfl (WP.ret (jT hT (by rfl) (bT fm)))};refine sg rfl (cd rfl (λk=>?_) (λk=>?_));{exact sg rfl (WP.ret (jT hT (by rfl) (bT fm)))};refine sq (sq (rg [] rfl ?_));refine cd rfl (λb=>?_) (λb=>?_);{refine sk (cd rfl (λb=>?_) (λb=>?_));{exact sg rfl (WP.ret (jT hT (by rfl) (bT fm)))};simp_all};refine rg [] rfl (cd rfl (λl=>?_) (λl=>?_));{exact sg rfl (WP.ret (jT hT (by rfl) (bT fm)))};refine sg rfl (cd rfl (λm=>?_) (λm=>?_));{exact sg rfl (WP.ret (jT hT (by rfl) (bT fm)))};refine sg rfl (cd rfl (λn=>?_) (λn=>?_));{exact sg rfl (WP.ret (jT hT (by rfl) (bT fm)))};refine sg rfl (cd rfl (λo=>?_) (λo=>?_));{exact sg rfl (WP.ret (jT hT (by rfl) (bT fm)))};refine sg rfl (cd rfl (λp=>?_) (λp=>?_));{exact sg rfl (WP.ret (jT hT (by rfl) (bT fm)))};refine sg rfl (cd rfl (λq=>?_) (λq=>?_));{exact sg rfl (WP.ret (jT hT (by rfl) (bT fm)))};refine sg rfl (cd rfl (λr=>?_) (λr=>?_));{exact sg rfl (WP.ret (jT hT (by rfl) (bT fm)))};refine sg rfl (cd rfl (λs=>?_) (λs=>?_));{exact sg rfl (WP.ret (jT hT (by rfl) (bT fm)))};refine sk (sq (rg [] rfl ?_));exact WP.ret (jT hT (by rfl) (bT fm))
theorem XF (op:Int):AC Tryz.prog T aH 152 [.int op] [] (.v (.string (oH op))) []:=by
 refine aX Tryz.func152 ?_;refine sg rfl (sq (sq (rg [] rfl ?_)));refine cd rfl (λu=>?_) (λu=>?_)
 ·exact sg rfl (WP.ret (jT hT (by rfl) (bT fm)))
 refine sk (sq (sq (rg [] rfl ?_)));refine cd rfl (λw=>?_) (λw=>?_);{exact sg rfl (WP.ret (jT hT (by rfl) (bT fm)))};refine sk (sq (sq (rg [] rfl ?_)));refine bk (sq (rg [] rfl ?_));refine cd rfl (λx=>?_) (λx=>?_);{exact sg rfl (WP.ret (jT hT (by rfl) (bT fm)))};refine sg rfl (cd rfl (λy=>?_) (λy=>?_));{exact sg rfl (WP.ret (jT hT (by rfl) (bT fm)))};refine sg rfl (cd rfl (λb=>?_) (λb=>?_));{exact sg rfl (WP.ret (jT hT (by rfl) (bT fm)))};refine sg rfl (cd rfl (λc=>?_) (λc=>?_));{exact sg rfl (WP.ret (jT hT (by rfl) (bT fm)))};refine sg rfl (cd rfl (λd=>?_) (λd=>?_));{exact sg rfl (WP.ret (jT hT (by rfl) (bT fm)))};refine sg rfl (cd rfl (λe=>?_) (λe=>?_));{exact sg rfl (WP.ret (jT hT (by rfl) (bT fm)))};refine sg rfl (cd rfl (λf=>?_) (λf=>?_));{exact sg rfl (WP.ret (jT hT (by rfl) (bT fm)))};refine sg rfl (cd rfl (λg=>?_) (λg=>?_));{exact sg rfl (WP.ret (jT hT (by rfl) (bT fm)))};refine sg rfl (cd rfl (λh=>?_) (λh=>?_));{exact sg rfl (WP.ret (jT hT (by rfl) (bT fm)))};refine sg rfl (cd rfl (λi=>?_) (λi=>?_));{exact sg rfl (WP.ret (jT hT (by rfl) (bT fm)))};refine sg rfl (cd rfl (λj=>?_) (λj=>?_));{exact sg rfl (WP.ret (jT hT (by rfl) (bT fm)))};refine sq (sq (rg [] rfl ?_));refine cd rfl (λa=>?_) (λa=>?_);{refine sk (cd rfl (λa=>?_) (λa=>?_));{exact sg rfl (WP.ret (jT hT (by rfl) (bT fm)))};simp_all};refine rg [] rfl (cd rfl (λk=>?_) (λk=>?_));{exact sg rfl (WP.ret (jT hT (by rfl) (bT fm)))};refine sg rfl (cd rfl (λl=>?_) (λl=>?_));{exact sg rfl (WP.ret (jT hT (by rfl) (bT fm)))};refine sg rfl (cd rfl (λm=>?_) (λm=>?_));{exact sg rfl (WP.ret (jT hT (by rfl) (bT fm)))};refine sg rfl (cd rfl (λn=>?_) (λn=>?_));{exact sg rfl (WP.ret (jT hT (by rfl) (bT fm)))};refine sg rfl (cd rfl (λo=>?_) (λo=>?_));{exact sg rfl (WP.ret (jT hT (by rfl) (bT fm)))};refine sg rfl (cd rfl (λp=>?_) (λp=>?_));{exact sg rfl (WP.ret (jT hT (by rfl) (bT fm)))};refine sg rfl (cd rfl (λq=>?_) (λq=>?_));{exact sg rfl (WP.ret (jT hT (by rfl) (bT fm)))};refine sg rfl (cd rfl (λr=>?_) (λr=>?_));{exact sg rfl (WP.ret (jT hT (by rfl) (bT fm)))};refine sg rfl (cd rfl (λs=>?_) (λs=>?_));{exact sg rfl (WP.ret (jT hT (by rfl) (bT fm)))};refine sg rfl (cd rfl (λt=>?_) (λt=>?_));{exact sg rfl (WP.ret (jT hT (by rfl) (bT fm)))};refine sk (sq (rg [] rfl ?_));exact WP.ret (jT hT (by rfl) (bT fm))
def nR (op:Int):Bool:=(decide (op>=1)&&decide (op<=36))||(decide (op>=40)&&decide (op<=45))
def yQ (op:Int):Bool:=decide (op>=50)&&decide (op<=65)
theorem D9 (op:Int):AC Tryz.prog T aH 145 [.int op] [] (.bool (nR op)) []:=by
 refine aX Tryz.func145 ?_;refine sg rfl (sg rfl ?_);refine rX ?_;exact fin1 hT (by rfl) (by rw [band,band,fG];rfl)
theorem NU (op:Int):AC Tryz.prog T aH 151 [.int op] [] (.bool (yQ op)) []:=by
 refine aX Tryz.func151 ?_;refine sg rfl (sg rfl ?_);refine rX ?_;exact fin1 hT (by rfl) (by rw [band];rfl)
def FB (x:iG):List Int:=[x.a,x.b,x.c,x.n]
def XV (x:iG):AV:=lC 54 4 .i64 (FB x)
theorem Dp {Q:List UInt8->Prop} (op:Int) (y:1<=op/\op<=15->Q [114,114,45,45]) (z:16<=op/\op<=36->Q [114,114,114,45]) (h2:op=40\/op=44\/op=65->Q [114,45,45,110]) (h3:op=41->Q [114,114,45,45]) (h4:op=42->Q [116,45,45,45]) (h5:op=43->Q [114,116,45,45]) (h6:op=45\/op=64->Q [45,45,45,45]) (h7:op=50->Q [114,118,45,45]) (h8:op=51->Q [118,114,45,45]) (h9:op=52->Q [111,97,114,45]) (o:op=53->Q [114,97,114,119]) (p:op=54->Q [97,114,45,45]) (q:op=55\/op=56->Q [108,45,45,45]) (r:op=57->Q [114,108,45,45]) (s:op=58->Q [99,114,45,45]) (t:op=59->Q [111,99,111,45]) (u:op=60->Q [99,45,45,45]) (v:op=61->Q [115,45,45,45]) (w:op=62->Q [111,102,112,45]) (x:op=63->Q [114,45,45,45]) (hn:¬ (1<=op/\op<=36)/\¬ (40<=op/\op<=45)/\¬ (50<=op/\op<=65)->Q []):Q (jZ op):=by
 unfold jZ;by_cases c0:1<=op/\op<=15
 ·rw [aa2 c0];exact y c0
 rw [xw c0];by_cases c1:16<=op/\op<=36
 ·rw [aa2 c1];exact z c1
 rw [xw c1];by_cases c2:op=40\/op=44\/op=65
 ·rw [aa2 c2];exact h2 c2
 rw [xw c2];by_cases c3:op=41
 ·rw [aa2 c3];exact h3 c3
 rw [xw c3];by_cases c4:op=42
 ·rw [aa2 c4];exact h4 c4
 rw [xw c4];by_cases c5:op=43
 ·rw [aa2 c5];exact h5 c5
 rw [xw c5];by_cases k:op=45\/op=64
 ·rw [aa2 k];exact h6 k
 rw [xw k];by_cases l:op=50
 ·rw [aa2 l];exact h7 l
 rw [xw l];by_cases m:op=51
 ·rw [aa2 m];exact h8 m
 rw [xw m];by_cases n:op=52
 ·rw [aa2 n];exact h9 n
 rw [xw n];by_cases a:op=53
 ·rw [aa2 a];exact o a
 rw [xw a];by_cases b:op=54
 ·rw [aa2 b];exact p b
 rw [xw b];by_cases c:op=55\/op=56
 ·rw [aa2 c];exact q c
 rw [xw c];by_cases d:op=57
 ·rw [aa2 d];exact r d
 rw [xw d];by_cases e:op=58
 ·rw [aa2 e];exact s e
 rw [xw e];by_cases f:op=59
 ·rw [aa2 f];exact t f
 rw [xw f];by_cases g:op=60
 ·rw [aa2 g];exact u g
 rw [xw g];by_cases h:op=61
 ·rw [aa2 h];exact v h
 rw [xw h];by_cases i:op=62
 ·rw [aa2 i];exact w i
 rw [xw i];by_cases j:op=63
 ·rw [aa2 j];exact x j
 rw [xw j];exact hn (by omega)
theorem XU (x:iG):(AV.agg 54 4 λq=>bif Nat.beq q 3 then .int x.n else bif Nat.beq q 2 then .int x.c else bif Nat.beq q 1 then .int x.b else bif Nat.beq q 0 then .int x.a else .int 0)=XV x:=bH (λq=>by match q with | 0 | 1 | 2 | 3 | q+4=>rfl)
theorem J8 (op:Int):(jZ op=[])↔nR op=false/\yQ op=false:=by
 have hb:(nR op=false/\yQ op=false)↔¬ (1<=op/\op<=36)/\¬ (40<=op/\op<=45)/\¬ (50<=op/\op<=65):=by unfold nR yQ;simp only [ad3,ae3,acD];omega
 rw [hb];refine Dp (Q:=λl=>l=[]↔_) op ?_ ?_ ?_ ?_ ?_ ?_ ?_ ?_ ?_ ?_ ?_ ?_ ?_ ?_ ?_ ?_ ?_ ?_ ?_ ?_ ?_;all_goals (intro h;constructor <;> intro k)
 all_goals (first | rfl | exact h | (exfalso;omega) | (exact absurd k (List.cons_ne_nil _ _)))
theorem YH {op:Int} (h:jZ op≠[]):(jZ op).length=4:=by
 revert h;refine Dp (Q:=λl=>l≠[]->l.length=4) op ?_ ?_ ?_ ?_ ?_ ?_ ?_ ?_ ?_ ?_ ?_ ?_ ?_ ?_ ?_ ?_ ?_ ?_ ?_ ?_ ?_;all_goals (intro _ h;first | rfl | exact absurd rfl h)
def rY (op:Int) (k:Nat):Int:=byteAt (oH op) k
theorem Yk (op:Int) (k:Nat):rY op k=(((jZ op)[k]?.getD 0).toNat:Nat):=by
 unfold rY byteAt oH;congr 2;by_cases h:k<(jZ op).length
 ·(have a:k<(⟨(jZ op).toArray⟩:ByteArray).size:=by simpa [ByteArray.size]using h);rw [getElem?_pos (⟨(jZ op).toArray⟩:ByteArray) k a,getElem?_pos (jZ op) k h];rfl
 (have a:¬ k<(⟨(jZ op).toArray⟩:ByteArray).size:=by simpa [ByteArray.size]using h);rw [getElem?_neg (⟨(jZ op).toArray⟩:ByteArray) k a,getElem?_neg (jZ op) k h]
theorem aat {op:Int} {k:Nat} (h:rY op k=112):k=2/\rY op 1=102:=by
 rw [Yk]at h ⊢;revert h;refine Dp (Q:=λl=>((l[k]?.getD 0).toNat:Int)=112->k=2/\((l[1]?.getD 0).toNat:Int)=102) op ?_ ?_ ?_ ?_ ?_ ?_ ?_ ?_ ?_ ?_ ?_ ?_ ?_ ?_ ?_ ?_ ?_ ?_ ?_ ?_ ?_;all_goals (intro _ h;match k,h with| 0,h | 1,h | 2,h | 3,h=>(first | exact ⟨rfl,rfl⟩ | (exact absurd h (by decide)))| k+4,h=>(exact absurd h (by simp)))
def Fh (p:Nat->Bool):Nat->Bool
 | 0=>false
 | i+1=>Fh p i||p i
theorem ED {p:Nat->Bool} {i:Nat} (h:p i=true):∀ {n:Nat},i<n->Fh p n=true
 | n+1,hn=>by rw [Fh,adP];by_cases e:i=n;{subst e;exact .inr h};exact .inl (ED h (by omega))
theorem Uf (b:ByteArray):∀ (n i:Nat) (r:List UInt8),b.size - i=n->(ByteArray.toList.loop b i r).length=r.length+(b.size - i)
 | 0,i,r,h=>by unfold ByteArray.toList.loop;rw [xw (by omega),List.length_reverse];omega
 | n+1,i,r,h=>by unfold ByteArray.toList.loop;rw [aa2 (by omega),Uf b n (i+1) _ (by omega),ad4];omega
theorem Zj (b:ByteArray):b.toList.length=b.size:=by
 unfold ByteArray.toList;have:=Uf b _ 0 [] rfl;simpa using this
theorem YI {op:Int} (h:((oH op).toList==(⟨#[]⟩:ByteArray).toList)=true):jZ op=[]:=by
 have b:(oH op).toList=(⟨#[]⟩:ByteArray).toList:=by simpa using h
 have a:=ac8 List.length b;rw [Zj,Zj]at a;have c:(jZ op).length=0:=by simpa [oH,ByteArray.size]using a
 exact ad8 c
theorem YG {op:Int} (h:((oH op).toList==(⟨#[]⟩:ByteArray).toList)=false):jZ op≠[]:=by
 intro e;have:oH op=⟨#[]⟩:=by rw [oH,e]
 rw [this]at h;simp at h
def unB (x:iG) (k:Nat):Bool:=rY x.op k==45&&(FB x).getD k 0 != 0
def qI (p:ak) (f:gq) (x:iG):Nat->Int
 | 0=>0
 | k+1=>if qI p f x k≠0 then qI p f x k else aP p f (rY x.op k) ((FB x).getD k 0) x
def jA (p:ak) (f:gq) (x:iG):Int :=
 if jZ x.op=[]then 33 else if Fh (unB x) 4 then 34 else qI p f x 4
theorem J7 {op:Int} (h:jZ op≠[]):(oH op).size=4:=by
 have:=YH h;simpa [oH,ByteArray.size]using this
theorem Ey {p:ak} {f:gq} {x:iG} {k:Nat} (h:qI p f x k=0) (hb:aP p f (rY x.op k) ((FB x).getD k 0) x≠0):∀ {n:Nat},k<n->qI p f x n=aP p f (rY x.op k) ((FB x).getD k 0) x
 | n+1,hn=>by by_cases e:k=n;{subst e;rw [qI,h,xw (by simp)]};have a:=Ey h hb (n:=n) (by omega);rw [qI,a,aa2 hb]
theorem XR {p:ak} {f:gq} {x:iG} {k:Nat} (h:qI p f x k=0) (hc:rY x.op k=112):0<=x.b/\x.b<p.funcs.length:=by
 obtain ⟨rfl,d⟩:=aat hc;have c:aP p f (rY x.op 1) ((FB x).getD 1 0) x=0:=by(have e:qI p f x 2=if qI p f x 1≠0 then qI p f x 1 else aP p f (rY x.op 1) ((FB x).getD 1 0) x:=rfl);rw [e]at h;split at h;{rename_i a;exact absurd h a};exact h
 rw [d]at c;exact rC c
theorem OI (x:iG):AC Tryz.prog T aH 216 [aQ x] [] (XV x) []:=by
 refine aX Tryz.func216 ?_;refine sg rfl (sg rfl ?_);refine rX ?_;refine Fin.ent (xu.mk (P:=Tryz.prog) hT [] (ts:=[(2,.ptr (.s 2 0) 1 0 [])]) (ms:=[(.s 2 0,.cells ⟨54,1,λ_=>XV x,0⟩)]) trivial ⟨⟨rfl,_,rfl,ah rfl⟩,tt⟩ ⟨⟨λ_ _=>Ej (λ_ _=>rfl),.inl ⟨_,rfl,_,_,rfl,abd _,abq _,abq _,λq a=>by (obtain rfl:q=0:=(by simp at a;exact a));exact ah (XU x)⟩⟩,tt⟩ rfl) ?_;refine aJ hT [(.s 2 0,1)] (ts:=[(2,.rp 54 (XV x))]) (l:=[XV x]) ⟨⟨_,rfl,abd _⟩,tt⟩ ⟨⟨rfl,_,rfl,bM rfl rfl (by simp [dW,aS]) rfl rfl Hz⟩,tt⟩ trivial rfl rfl rfl
theorem Yn (p:ak) (f:gq) (x:iG):AC Tryz.prog T aH 157 [.rp 257 (zF p f),aQ x] [] (.int (jA p f x)) []:=by
 refine aX Tryz.func157 ?_;refine sg rfl (sq (rgs [CG.pure (.v (.string (oH x.op)))] rfl ?_ ?_))
 ·have hf:=aaG x.op;simp [ay,under,CG.pure];exact hf
 refine sq (sq (rg [] rfl ?_));refine cd rfl (λg=>?_) (λg=>?_)
 ·have j:jZ x.op=[]:=YI g;exact sg rfl (WP.ret (bf hT (by rfl) (by rw [jA,aa2 j])))
 have b:jZ x.op≠[]:=YG g;have hsz:=J7 b;refine sk (sq (rgs [CG.pure (XV x)] rfl ?_ ?_));{have l:=OI x;simp [ay,under,CG.pure];exact l};refine sq (sq (rg [] rfl ?_));refine bk (WP.loop (α:=Nat) (λk=>aN [(0,.rp 257 (zF p f)),(3,.rp 120 (aQ x)),(5,.v (.string (oH x.op))),(6,.rp 54 (XV x)),(19,XV x),(20,.int k)] []) (λk=>k<=4/\Fh (unB x) k=false) (λk=>4 - k) ?_ ?_);{refine ⟨0,?_,?_⟩;{exact ⟨abq _,rfl⟩};refine em [(.s 3 0,1),(.s 6 0,1)] ⟨⟨_,rfl,abd _⟩,⟨_,rfl,abd _⟩,tt⟩ ⟨cq,⟨rfl,_,rfl,bM rfl rfl (by decide) rfl rfl rfl⟩,cq,⟨rfl,_,rfl,bM rfl rfl (by decide) rfl rfl rfl⟩,cq,cq,tt⟩ trivial};rintro k ⟨hk,hn⟩;refine sg rfl (sq ?_);refine cd rfl (λh=>?_) (λh=>?_);{(have a:k<4:=by simp at h;omega);refine sk (sq (bk (sq (rgs [] rfl ?_ ?_))));{simp [ay,under];omega};refine sq (rgs [] rfl ?_ ?_);{simp [ay,under,hsz];omega};refine cd rfl (λi=>?_) (λi=>?_);{(have hb:unB x k=true:=by have e:(bif rY x.op k==45 then (FB x).getD k 0 != 0 else false)=true:=i;rwa [band]at e);exact sg rfl (WP.ret (bf hT (by rfl) (by rw [jA,xw b,ED hb a,aa2 rfl])))};(have hb:unB x k=false:=by have e:(bif rY x.op k==45 then (FB x).getD k 0 != 0 else false)=false:=i;rwa [band]at e);refine sk (rg [] rfl ?_);refine ⟨k+1,?_,?_,?_⟩;{exact ⟨a,by rw [Fh,hn,hb];rfl⟩};{refine eX cX trivial};(try simp only []);first | omega | grind};(have a:k=4:=by simp at h;omega);subst a;refine xt (sq (sq (rg [] rfl ?_)));refine bk (WP.loop (α:=Nat) (λk=>aN [(0,.rp 257 (zF p f)),(3,.rp 120 (aQ x)),(5,.v (.string (oH x.op))),(33,XV x),(34,.int k)] []) (λk=>k<=4/\qI p f x k=0) (λk=>4 - k) ?_ ?_);{refine ⟨0,?_,?_⟩;{exact ⟨abq _,rfl⟩};refine eX cX trivial};rintro k ⟨hk,he⟩;refine sg rfl (sq ?_);refine cd rfl (λc=>?_) (λc=>?_);{(have a:k<4:=by simp at c;omega);refine sk (sq (bk (sq (rgs [] rfl ?_ ?_))));{simp [ay,under];omega};refine sq (drs [CG.pure (.int (aP p f (rY x.op k) ((FB x).getD k 0) x))] rfl ?_ ?_);{have l:=QK p f (rY x.op k) ((FB x).getD k 0) x (λhc=>XR he hc);(have m:k<(oH x.op).size:=by omega);refine ⟨⟨by omega,by omega⟩,?_⟩;exact l};refine sg rfl (cd rfl (λd=>?_) (λd=>?_));{(have hb:aP p f (rY x.op k) ((FB x).getD k 0) x≠0:=by simpa using d);refine sg rfl (rX ?_);refine bf hT (by rfl) ?_;rw [jA,xw b,hn,xw (by simp),Ey he hb a]};(have hb:aP p f (rY x.op k) ((FB x).getD k 0) x=0:=by simpa using d);refine sk (rg [] rfl ?_);refine ⟨k+1,?_,?_,?_⟩;{exact ⟨a,by rw [qI,he,xw (by simp)];exact hb⟩};{refine eX cX trivial};(try simp only []);first | omega | grind};(have a:k=4:=by simp at c;omega);subst a;refine xt (sq (rg [] rfl ?_));refine rX ?_;exact bf hT (by rfl) (by rw [jA,xw b,hn];simp [he])
theorem U0 (p:ak) (f:gq) (x:iG):AC Tryz.prog T aH 109 [aj p,dQ f,aQ x] [] (.int (jA p f x)) []:=by
 refine aX Tryz.func109 ?_;refine sg rfl (sq (sq (rgs [CG.pure (.bool (nR x.op)),CG.pure (.bool (yQ x.op))] rfl ?_ ?_)))
 ·have g:=D9 x.op;have l:=NU x.op;simp [ay,under,CG.pure];exact ⟨g,λ_=>l⟩
 refine cd rfl (λg=>?_) (λg=>?_)
 ·(have j:jZ x.op=[]:=by have e:(bif !nR x.op then !yQ x.op else false)=true:=g;rw [band,abf,aeU,aeU]at e;exact (J8 x.op).2 e);exact sg rfl (WP.ret (bf hT (by rfl) (by rw [jA,aa2 j])))
 (have b:jZ x.op≠[]:=by have e:(bif !nR x.op then !yQ x.op else false)=false:=g;rw [band]at e;intro o;have:=(J8 x.op).1 o;rw [this.1,this.2]at e;cases e);have hsz:=J7 b;refine sk (sq (rgs [CG.pure (.v (.string (oH x.op)))] rfl ?_ ?_));{have hf:=XF x.op;simp [ay,under,CG.pure];exact hf};refine sg rfl (sq (sq (rg [] rfl ?_)));refine bk (WP.loop (α:=Nat) (λk=>aN [(3,.rp 26 (aj p)),(4,.rp 100 (dQ f)),(5,.rp 120 (aQ x)),(7,.v (.string (oH x.op))),(8,.rp 54 (XV x)),(9,.int k)] []) (λk=>k<=4/\Fh (unB x) k=false) (λk=>4 - k) ?_ ?_);{refine ⟨0,?_,?_⟩;{exact ⟨abq _,rfl⟩};refine em [(.s 3 0,1),(.s 4 0,1),(.s 5 0,1),(.s 8 0,1)] ⟨⟨_,rfl,abd _⟩,⟨_,rfl,abd _⟩,⟨_,rfl,abd _⟩,⟨_,rfl,abd _⟩,tt⟩ ⟨⟨rfl,_,rfl,bM rfl rfl (by decide) rfl rfl rfl⟩,⟨rfl,_,rfl,bM rfl rfl (by decide) rfl rfl rfl⟩,⟨rfl,_,rfl,bM rfl rfl (by decide) rfl rfl rfl⟩,cq,⟨rfl,_,rfl,bM rfl rfl (by decide) rfl (XU x) Hz⟩,cq,tt⟩ trivial};rintro k ⟨hk,hn⟩;refine sq (sq (rg [] rfl ?_));refine cd rfl (λh=>?_) (λh=>?_);{(have a:k<4:=by simp at h;omega);refine sk (sq (bk (sq (rgs [] rfl ?_ ?_))));{simp [ay,under,hsz];omega};refine cd rfl (λi=>?_) (λi=>?_);{(have hb:unB x k=true:=by have e:(bif rY x.op k==45 then (FB x).getD k 0 != 0 else false)=true:=i;rwa [band]at e);exact sg rfl (WP.ret (bf hT (by rfl) (by rw [jA,xw b,ED hb a,aa2 rfl])))};(have hb:unB x k=false:=by have e:(bif rY x.op k==45 then (FB x).getD k 0 != 0 else false)=false:=i;rwa [band]at e);refine sk (rg [] rfl ?_);refine ⟨k+1,?_,?_,?_⟩;{exact ⟨a,by rw [Fh,hn,hb];rfl⟩};{refine eX cX trivial};(try simp only []);first | omega | grind};(have a:k=4:=by simp at h;omega);subst a;refine xt (sq (sq (rg [] rfl ?_)));refine bk (WP.loop (α:=Nat) (λk=>aN [(3,.rp 26 (aj p)),(4,.rp 100 (dQ f)),(5,.rp 120 (aQ x)),(7,.v (.string (oH x.op))),(8,.rp 54 (XV x)),(10,.int k)] []) (λk=>k<=4/\qI p f x k=0) (λk=>4 - k) ?_ ?_);{refine ⟨0,?_,?_⟩;{exact ⟨abq _,rfl⟩};refine eX cX trivial};rintro k ⟨hk,he⟩;refine sq (sq (rg [] rfl ?_));refine cd rfl (λc=>?_) (λc=>?_);{(have a:k<4:=by simp at c;omega);refine sk (sq (bk (sq (drs [CG.pure (.int (aP p f (rY x.op k) ((FB x).getD k 0) x))] rfl ?_ ?_))));{have n:=Oa p f (rY x.op k) ((FB x).getD k 0) x (λhc=>XR he hc);(have m:k<(oH x.op).size:=by omega);refine ⟨⟨⟨by omega,by omega⟩,⟨by omega,by omega⟩⟩,?_⟩;exact n};refine sg rfl (cd rfl (λd=>?_) (λd=>?_));{(have hb:aP p f (rY x.op k) ((FB x).getD k 0) x≠0:=by simpa using d);refine sg rfl (rX ?_);refine bf hT (by rfl) ?_;rw [jA,xw b,hn,xw (by simp),Ey he hb a]};(have hb:aP p f (rY x.op k) ((FB x).getD k 0) x=0:=by simpa using d);refine sk (rg [] rfl ?_);refine ⟨k+1,?_,?_,?_⟩;{exact ⟨a,by rw [qI,he,xw (by simp)];exact hb⟩};{refine eX cX trivial};(try simp only []);first | omega | grind};(have a:k=4:=by simp at c;omega);subst a;refine xt (sq (rg [] rfl ?_));refine rX ?_;exact bf hT (by rfl) (by rw [jA,xw b,hn];simp [he])
def Bq {α:Type} (g:α->Int):List α->Int
 | []=>0
 | x::r=>if g x≠0 then g x else Bq g r
theorem yg {α:Type} {g:α->Int} {d:α}:∀ {l:List α} {i:Nat},i<l.length->(∀ j,j<i->g (l.getD j d)=0)->g (l.getD i d)≠0->Bq g l=g (l.getD i d)
 | x::r,0,_,_,hb=>by have a:g x≠0:=hb;rw [Bq,aa2 a];rfl
 | x::r,i+1,hi,hn,hb=>by have b:=hn 0 (by omega);rw [Bq,xw (by simpa using b)];exact yg (l:=r) (i:=i) (by simpa using hi) (λj c=>hn (j+1) (by omega)) hb
theorem lN {α:Type} {g:α->Int} {d:α}:∀ {l:List α},(∀ j,j<l.length->g (l.getD j d)=0)->Bq g l=0
 | [],_=>rfl
 | x::r,hn=>by have a:=hn 0 (by simp);rw [Bq,xw (by simpa using a)];exact lN (l:=r) (λj b=>hn (j+1) (by simpa using b))
def szB (p:ak):Bool:=decide ((p.vars.length:Int)>8)||decide (p.locks<0)||decide (p.locks>4)||decide ((p.chans.length:Int)>4)||decide ((p.funcs.length:Int)<1)||decide ((p.funcs.length:Int)>8)
def Fb (n:Int):Int:=if decide (n<0)||decide (n>4)then 31 else 0
def kZ (p:ak):Int:=if szB p then 30 else Bq Fb p.chans
theorem je {P:Nat->Prop} {i:Nat} (h:∀ j,j<i->P j) (hi:P i):∀ j,j<i+1->P j:=λj b=>by
 rcases adv j i with a | a
 ·exact h j a
 ·obtain rfl:j=i:=by omega
  exact hi
theorem WG (p:ak):AC Tryz.prog T aH 154 [aj p] [] (.int (kZ p)) []:=by
 refine aX Tryz.func154 ?_;refine sg rfl (sq (sq (rg [] rfl ?_)));refine cd rfl (λb=>?_) (λb=>?_)
 ·(have hb:szB p=true:=by simp only [fG]at b;exact b);exact sg rfl (WP.ret (bf hT (by rfl) (by rw [kZ,aa2 hb])))
 (have hb:szB p=false:=by simp only [fG]at b;exact b);(have e:p.chans.length<=4:=by simp [szB]at hb;omega);refine sk (sq (sq (rg [] rfl ?_)));refine bk (WP.loop (α:=Nat) (λi=>aN [(38,ints false p.chans),(39,.int p.chans.length),(40,.int i)] []) (λi=>i<=p.chans.length /\ ∀ j,j<i->Fb (p.chans.getD j 0)=0) (λi=>p.chans.length - i) ?_ ?_);{refine ⟨0,?_,?_⟩;{exact ⟨abq _,λj f=>by omega⟩};refine eX cX trivial};rintro i ⟨hi,hn⟩;refine sg rfl (sq ?_);refine cd rfl (λd=>?_) (λd=>?_);{(have a:i<p.chans.length:=by simpa using d);refine sk (sq (bk (sq (rgs [] rfl ?_ ?_))));{simp [ay,under];omega};refine sg rfl (cd rfl (λc=>?_) (λc=>?_));{(have hx:Fb (p.chans.getD i 0)=31:=by simp only [fG]at c;exact aa2 c);refine sg rfl (rX ?_);exact bf hT (by rfl) (by rw [kZ,hb,xw (by simp),yg a hn (by rw [hx];decide),hx])};(have hx:Fb (p.chans.getD i 0)=0:=by simp only [fG]at c;exact xw (by rw [show (decide (p.chans.getD i 0<0)||decide (p.chans.getD i 0>4))=false from c];decide));refine sk (rg [] rfl ?_);refine ⟨i+1,?_,?_,?_⟩;{exact ⟨a,je hn hx⟩};{refine eX cX trivial};(try simp only []);first | omega | grind};(have a:i=p.chans.length:=by simp at d;omega);subst a;refine xt (sq (rg [] rfl ?_));exact WP.ret (bf hT (by rfl) (by rw [kZ,hb,xw (by simp),lN hn]))
def Qm (f:gq) (main:Bool):Bool:=(decide (f.regs>=0)&&decide (f.regs<=8)&&decide (f.params>=0)&&decide (f.params<=f.regs) && !(main&&decide (f.params>0)))&&decide ((f.code.length:Int)>=1)&&decide ((f.code.length:Int)<=64)&&decide ((f.sels.length:Int)<=4)
theorem qY {f:gq} {main:Bool}:Qm f main=true↔0<=f.regs/\f.regs<=8/\0<=f.params/\f.params<=f.regs/\¬ (main=true/\f.params>0)/\(f.code.length:Int)>=1/\(f.code.length:Int)<=64/\(f.sels.length:Int)<=4:=by
 simp only [Qm,abf,acf,aeU,ae3,acD];cases main <;> simp <;> omega
theorem not_true {b:Bool} (h:¬ b=true):b=false:=by simpa using h
def Fv (s:rZ):Bool:=decide ((s.cases.length:Int)>=1)&&decide ((s.cases.length:Int)<=4)
def tV (f:gq):Nat->Bool
 | 0=>true
 | i+1=>tV f i&&Fv (f.sels.getD i qE)
theorem UE {f:gq} {i:Nat} {n:Nat} (h:i<n) (hx:Fv (f.sels.getD i qE)=false):tV f n=false:=by
 induction n with| zero=>omega| succ n a=>rw [tV];by_cases e:i=n;{subst e;rw [hx,Bool.and_false]};rw [a (by omega),aes]
def gy (f:gq) (main:Bool):Bool:=Qm f main&&tV f f.sels.length
theorem Xb (f:gq) (main:Bool):AC Tryz.prog T aH 155 [dQ f,.bool main] [] (.int (if gy f main then 0 else 32)) []:=by
 refine aX Tryz.func155 ?_;refine sg rfl (sg rfl ?_);refine sg rfl (sq (sq (rg [] rfl ?_)));refine WP.rowlen 57 rfl (λg=>?_);refine bk (WP.loop (α:=Nat×Bool) (λ(⟨i,ok⟩:Nat×Bool)=>aN [(5,.bool ok),(57,rowP 103 gB qE f.sels),(58,.int f.sels.length),(59,.int i)] []) (λ(⟨i,ok⟩:Nat×Bool)=>i<=f.sels.length/\ok=(Qm f main&&tV f i)) (λ(⟨i,ok⟩:Nat×Bool)=>f.sels.length - i) ?_ ?_)
 ·refine ⟨(0,Qm f main),?_,?_⟩;{exact ⟨abq _,by simp [tV]⟩};refine eX ⟨⟨rfl,_,rfl,ah (by simp only [band];rfl)⟩,cq,cq,cq,tt⟩ trivial
 rintro ⟨i,ok⟩ ⟨hi,b⟩;refine sg rfl (sq ?_);refine cd rfl (λc=>?_) (λc=>?_);{(have a:i<f.sels.length:=by simpa using c);refine sk (sq (bk (sq (rgs [] rfl ?_ ?_))));{simp [ay,under];omega};refine rg [] rfl (rg [] rfl ?_);refine ⟨(i+1,Qm f main&&tV f (i+1)),?_,?_,?_⟩;{exact ⟨a,rfl⟩};{refine eX ⟨⟨rfl,_,rfl,ah (by simp only [band];rw [b,tV,Fv];simp only [Bool.and_assoc];rfl)⟩,cq,cq,cq,tt⟩ trivial};(try simp only []);first | omega | grind};(have a:i=f.sels.length:=by simp at c;omega);subst a;refine xt (sq (sq (rg [] rfl ?_)));refine cd rfl (λd=>?_) (λd=>?_);{(have e:gy f main=false:=by rw [gy,<- b];simpa using d);refine sg rfl (rX ?_);exact bf hT (by rfl) (by rw [e];rfl)};(have e:gy f main=true:=by rw [gy,<- b];simpa using d);refine sk (sq (rg [] rfl ?_));refine rX ?_;exact bf hT (by rfl) (by rw [e];rfl)
theorem VJ (n:Nat) (f:gq):AC Tryz.prog T aH 107 [.int n,dQ f] [] (.bool (gy f (n==0))) []:=by
 refine aX Tryz.func107 ?_;refine sg rfl (sq (sq (rg [] rfl ?_)));refine cd rfl (λd=>?_) (λd=>?_)
 ·(have hb:Qm f (n==0)=false:=by refine not_true λc=>?_;rw [qY]at c;simp only [fG,band,adP,abf,acf,adk,bne_iff_ne]at d c;omega);refine sg rfl (rX ?_);exact fin1 hT (by rfl) (by rw [gy,hb];rfl)
 refine sk (sq (sq (rg [] rfl ?_)));refine cd rfl (λe=>?_) (λe=>?_);{(have hb:Qm f (n==0)=false:=by refine not_true λc=>?_;rw [qY]at c;simp only [fG,band,adP,abf,acf,adk,bne_iff_ne]at e c;omega);refine sg rfl (rX ?_);exact fin1 hT (by rfl) (by rw [gy,hb];rfl)};(have hb:Qm f (n==0)=true:=by rw [qY];simp only [fG,band,ad3,ae3,acD,adk,aco,bne_eq_false_iff_eq]at d e ⊢;omega);(have j:f.sels.length<=4:=by simp [Qm]at hb;omega);refine sk (sq (sq (rg [] rfl ?_)));refine bk (WP.loop (α:=Nat) (λi=>aN [(53,rowP 103 gB qE f.sels),(54,.int f.sels.length),(55,.int i)] []) (λi=>i<=f.sels.length/\tV f i=true) (λi=>f.sels.length - i) ?_ ?_);{refine ⟨0,?_,?_⟩;{exact ⟨abq _,rfl⟩};refine eX cX trivial};rintro i ⟨hi,b⟩;refine sg rfl (sq ?_);refine cd rfl (λg=>?_) (λg=>?_);{(have a:i<f.sels.length:=by simpa using g);refine sk (sq (bk (sq (rgs [] rfl ?_ ?_))));{simp [ay,under];omega};refine sg rfl (cd rfl (λh=>?_) (λh=>?_));{(have hx:Fv (f.sels.getD i qE)=false:=by simp only [fG,adP,acf,adu]at h;simp only [Fv,ae3,acD];omega);exact sg rfl (WP.ret (fin1 hT (by rfl) (by rw [gy,UE a hx,Bool.and_false])))};(have hx:Fv (f.sels.getD i qE)=true:=by simp only [fG,ad3,acD,adu]at h;simp only [Fv,abf,acf];omega);refine sk (rg [] rfl ?_);refine ⟨i+1,?_,?_,?_⟩;{exact ⟨a,by rw [tV,b,hx];rfl⟩};{refine eX cX trivial};(try simp only []);first | omega | grind};(have a:i=f.sels.length:=by simp at g;omega);subst a;refine xt (sq (rg [] rfl ?_));refine rX ?_;exact fin1 hT (by rfl) (by rw [gy,hb,b];rfl)
theorem BR {f:gq}:∀ {n:Nat},tV f n=true -> ∀ i,i<n->Fv (f.sels.getD i qE)=true
 | n+1,h,i,hi=>by rw [tV,abf]at h;by_cases e:i=n;{subst e;exact h.2};exact BR h.1 i (by omega)
def o7 (p:ak) (f:gq) (c:zK):Int :=
 if dN c.chan p.chans.length≠0 then 36 else if (c.send||c.reg != -1)=true/\eY f c.reg≠0 then 35 else
 if (c.send&&p.chans.getD c.chan.toNat 0==0)=true then 37 else eG f c.to
def zG (f:gq) (s:rZ):Int:=if s.els ≠ -1 then eG f s.els else 0
def D5 (p:ak) (f:gq) (s:rZ):Int:=if Bq (o7 p f) s.cases≠0 then Bq (o7 p f) s.cases else zG f s
def rF (p:ak) (f:gq):Int:=Bq (D5 p f) f.sels
abbrev aO (f:gq) (i:Nat):rZ:=f.sels.getD i qE
abbrev aA (s:rZ) (k:Nat):zK:=s.cases.getD k DC
theorem mP {p:ak} {f:gq} {s:rZ} {k:Nat} {e:Int} (hk:k<s.cases.length) (hn:∀ j,j<k->o7 p f (aA s j)=0) (he:o7 p f (aA s k)=e) (a:e≠0):D5 p f s=e:=by
 subst he;have:=yg hk hn a;rw [D5,this,aa2 a]
theorem kT {p:ak} {f:gq} {i:Nat} {e:Int} (hi:i<f.sels.length) (hn:∀ j,j<i->D5 p f (aO f j)=0) (he:D5 p f (aO f i)=e) (a:e≠0):rF p f=e:=by
 subst he;rw [rF,yg hi hn a]
theorem X8 {n m:Int} (h:dN n m≠0):dN n m=36:=by
 unfold dN at h ⊢;split
 ·rename_i hw;rw [aa2 hw]at h;exact absurd rfl h
 rfl
theorem XJ {f:gq} {n:Int} (h:eY f n≠0):eY f n=35:=by
 unfold eY at h ⊢;split
 ·rename_i hw;rw [aa2 hw]at h;exact absurd rfl h
 rfl
theorem Qs (p:ak) (f:gq) (m:Bool) (hf:gy f m=true):AC Tryz.prog T aH 156 [.rp 257 (zF p f)] [] (.int (rF p f)) []:=by
 refine aX Tryz.func156 ?_;have hsz:Qm f m=true:=by rw [gy,abf]at hf;exact hf.1
 have a2:tV f f.sels.length=true:=by rw [gy,abf]at hf;exact hf.2
 rw [qY]at hsz;refine sg rfl (sq (sq (rg [] rfl ?_)));refine bk (WP.loop (α:=Nat) (λi=>aN [(0,.rp 257 (zF p f)),(15,rowP 103 gB qE f.sels),(16,.int f.sels.length),(17,.int i)] []) (λi=>i<=f.sels.length /\ ∀ j,j<i->D5 p f (aO f j)=0) (λi=>f.sels.length - i) ?_ ?_)
 ·refine ⟨0,?_,?_⟩;{exact ⟨abq _,λj hj=>by omega⟩};refine eX cX trivial
 rintro i ⟨hi,hn⟩;refine sg rfl (sq ?_);refine cd rfl (λx=>?_) (λx=>?_);{(have a:i<f.sels.length:=by simpa using x);have a0:=BR a2 i a;(have a4:(aO f i).cases.length<=4:=by simp only [Fv,abf,acf]at a0;simp only [aO];omega);refine sk (sq (bk (sq (rgs [] rfl ?_ ?_))));{simp [ay,under];omega};refine sq (sq (rg [] rfl ?_));refine bk (WP.loop (α:=Nat) (λk=>aN [(0,.rp 257 (zF p f)),(4,.rp 103 (gB (aO f i))),(15,rowP 103 gB qE f.sels),(16,.int f.sels.length),(17,.int i),(22,rowP 215 pz DC (aO f i).cases),(23,.int (aO f i).cases.length),(24,.int k)] []) (λk=>k<=(aO f i).cases.length /\ ∀ j,j<k->o7 p f (aA (aO f i) j)=0) (λk=>(aO f i).cases.length - k) ?_ ?_);{refine ⟨0,?_,?_⟩;{exact ⟨abq _,λj hj=>by omega⟩};refine em [(.s 4 0,1)] ⟨⟨_,rfl,abd _⟩,tt⟩ ⟨cq,⟨rfl,_,rfl,bM rfl rfl (by decide) rfl rfl rfl⟩,cq,cq,cq,cq,cq,cq,tt⟩ trivial};rintro k ⟨hk,hc⟩;refine sg rfl (sq ?_);refine cd rfl (λy=>?_) (λy=>?_);{(have b:k<(aO f i).cases.length:=by simpa using y);refine sk (sq (bk (sq (rgs [] rfl ?_ ?_))));{have a3:k<(f.sels[i]?.getD qE).cases.length:=b;simp [ay,under];omega};refine sq (sq (drs [CG.pure (.int (dN (aA (aO f i) k).chan p.chans.length))] rfl ?_ ?_));{have n:=qP (aA (aO f i) k).chan p.chans.length;refine ⟨⟨rfl,rfl⟩,?_⟩;exact n};refine sg rfl (cd rfl (λz=>?_) (λz=>?_));{(have hb:dN (aA (aO f i) k).chan p.chans.length≠0:=by simpa using z);refine sg rfl (rX ?_);refine bf hT (by rfl) ?_;rw [X8 hb,kT a hn (mP b hc (by rw [o7,aa2 hb]) (by decide)) (by decide)]};(have hb:dN (aA (aO f i) k).chan p.chans.length=0:=by simpa using z);have l:=rC hb;refine sk (sq (sq (rg [] rfl ?_)));refine cd rfl (λq=>?_) (λq=>?_);{(have a1:((aA (aO f i) k).send||(aA (aO f i) k).reg != -1)=true:=by have e:(bif (aA (aO f i) k).send then true else (aA (aO f i) k).reg != -1)=true:=q;rwa [fG]at e);refine sq (rgs [CG.pure (.int (eY f (aA (aO f i) k).reg))] rfl ?_ ?_);{have n:=uX p f (aA (aO f i) k).reg;refine ⟨⟨rfl,rfl⟩,?_⟩;exact n};refine sg rfl (cd rfl (λr=>?_) (λr=>?_));{(have o:eY f (aA (aO f i) k).reg≠0:=by simpa using r);refine sg rfl (rX ?_);refine bf hT (by rfl) ?_;rw [XJ o,kT a hn (mP b hc (by rw [o7,xw (λh=>h hb),aa2 ⟨a1,o⟩]) (by decide)) (by decide)]};have o:¬ (((aA (aO f i) k).send||(aA (aO f i) k).reg != -1)=true/\eY f (aA (aO f i) k).reg≠0):=λh=>h.2 (by simpa using r);refine sk (sq (sq (drs [] rfl ?_ ?_)));{simp only [aO,aA,aae]at l;simp [ay,under];exact λ_=>l};refine cd rfl (λc=>?_) (λc=>?_);{(have w:((aA (aO f i) k).send&&p.chans.getD (aA (aO f i) k).chan.toNat 0==0)=true:=by have e:(bif (aA (aO f i) k).send then p.chans.getD (aA (aO f i) k).chan.toNat 0==0 else false)=true:=c;rwa [band]at e);refine sg rfl (rX ?_);refine bf hT (by rfl) ?_;rw [kT a hn (mP b hc (by rw [o7,xw (λh=>h hb),xw o,aa2 w]) (by decide)) (by decide)]};(have w:¬ ((aA (aO f i) k).send&&p.chans.getD (aA (aO f i) k).chan.toNat 0==0)=true:=by have e:(bif (aA (aO f i) k).send then p.chans.getD (aA (aO f i) k).chan.toNat 0==0 else false)=false:=c;rw [band]at e;rw [e];decide);(have g:o7 p f (aA (aO f i) k)=eG f (aA (aO f i) k).to:=by rw [o7,xw (λh=>h hb),xw o,xw w]);refine sk (sq (rgs [CG.pure (.int (eG f (aA (aO f i) k).to))] rfl ?_ ?_));{have n:=zM p f (aA (aO f i) k).to;refine ⟨⟨rfl,rfl⟩,?_⟩;exact n};refine sg rfl (cd rfl (λd=>?_) (λd=>?_));{(have ht:eG f (aA (aO f i) k).to≠0:=by simpa using d);refine sg rfl (rX ?_);refine bf hT (by rfl) ?_;rw [kT a hn (mP b hc g ht) ht]};(have ht:eG f (aA (aO f i) k).to=0:=by simpa using d);refine sk (rg [] rfl ?_);refine ⟨k+1,?_,?_,?_⟩;{exact ⟨b,je hc (by rw [g,ht])⟩};{refine eX cX trivial};(try simp only []);first | omega | grind};(have o:¬ (((aA (aO f i) k).send||(aA (aO f i) k).reg != -1)=true/\eY f (aA (aO f i) k).reg≠0):=by have e:(bif (aA (aO f i) k).send then true else (aA (aO f i) k).reg != -1)=false:=q;rw [fG]at e;rw [e];simp);refine sk (sq (sq (drs [] rfl ?_ ?_)));{simp only [aO,aA,aae]at l;simp [ay,under];exact λ_=>l};refine cd rfl (λc=>?_) (λc=>?_);{(have w:((aA (aO f i) k).send&&p.chans.getD (aA (aO f i) k).chan.toNat 0==0)=true:=by have e:(bif (aA (aO f i) k).send then p.chans.getD (aA (aO f i) k).chan.toNat 0==0 else false)=true:=c;rwa [band]at e);refine sg rfl (rX ?_);refine bf hT (by rfl) ?_;rw [kT a hn (mP b hc (by rw [o7,xw (λh=>h hb),xw o,aa2 w]) (by decide)) (by decide)]};(have w:¬ ((aA (aO f i) k).send&&p.chans.getD (aA (aO f i) k).chan.toNat 0==0)=true:=by have e:(bif (aA (aO f i) k).send then p.chans.getD (aA (aO f i) k).chan.toNat 0==0 else false)=false:=c;rw [band]at e;rw [e];decide);(have g:o7 p f (aA (aO f i) k)=eG f (aA (aO f i) k).to:=by rw [o7,xw (λh=>h hb),xw o,xw w]);refine sk (sq (rgs [CG.pure (.int (eG f (aA (aO f i) k).to))] rfl ?_ ?_));{have n:=zM p f (aA (aO f i) k).to;refine ⟨⟨rfl,rfl⟩,?_⟩;exact n};refine sg rfl (cd rfl (λd=>?_) (λd=>?_));{(have ht:eG f (aA (aO f i) k).to≠0:=by simpa using d);refine sg rfl (rX ?_);refine bf hT (by rfl) ?_;rw [kT a hn (mP b hc g ht) ht]};(have ht:eG f (aA (aO f i) k).to=0:=by simpa using d);refine sk (rg [] rfl ?_);refine ⟨k+1,?_,?_,?_⟩;{exact ⟨b,je hc (by rw [g,ht])⟩};{refine eX cX trivial};(try simp only []);first | omega | grind};(have b:k=(aO f i).cases.length:=by simp only [acD]at y;omega);subst b;(have v:D5 p f (aO f i)=zG f (aO f i):=by rw [D5,lN hc];simp);refine xt (sq (rg [] rfl ?_));refine cd rfl (λt=>?_) (λt=>?_);{(have he:(aO f i).els ≠ -1:=by simpa using t);refine sq (rgs [CG.pure (.int (eG f (aO f i).els))] rfl ?_ ?_);{have n:=zM p f (aO f i).els;exact n};refine sg rfl (cd rfl (λu=>?_) (λu=>?_));{(have ht:eG f (aO f i).els≠0:=by simpa using u);refine sg rfl (rX ?_);refine bf hT (by rfl) ?_;rw [kT a hn (by rw [v,zG,aa2 he]) ht]};(have ht:eG f (aO f i).els=0:=by simpa using u);refine sk (rg [] rfl ?_);refine ⟨i+1,?_,?_,?_⟩;{exact ⟨a,je hn (by rw [v,zG,aa2 he,ht])⟩};{refine eX cX trivial};(try simp only []);first | omega | grind};(have he:(aO f i).els = -1:=by simpa using t);refine sk (rg [] rfl ?_);refine ⟨i+1,?_,?_,?_⟩;{exact ⟨a,je hn (by rw [v,zG,xw (λh=>h he)])⟩};{refine eX cX trivial};(try simp only []);first | omega | grind};(have a:i=f.sels.length:=by simp at x;omega);subst a;refine xt (sq (rg [] rfl ?_));exact WP.ret (bf hT (by rfl) (by rw [rF,lN hn]))
theorem abU (n m:Int):dN n m≠0↔dI n m=false:=by
 unfold dN;cases dI n m <;> simp
theorem XI (f:gq) (n:Int):eY f n≠0↔dI n f.regs=false:=by
 unfold eY;cases dI n f.regs <;> simp
theorem NY (p:ak) (f:gq) (m:Bool) (hf:gy f m=true):AC Tryz.prog T aH 108 [aj p,dQ f] [] (.int (rF p f)) []:=by
 refine aX Tryz.func108 ?_;have hsz:Qm f m=true:=by rw [gy,abf]at hf;exact hf.1
 have a0:tV f f.sels.length=true:=by rw [gy,abf]at hf;exact hf.2
 rw [qY]at hsz;refine sg rfl (sq (sq (rg [] rfl ?_)));refine bk (WP.loop (α:=Nat) (λi=>aN [(2,.rp 26 (aj p)),(3,.rp 100 (dQ f)),(10,rowP 103 gB qE f.sels),(11,.int f.sels.length),(12,.int i)] []) (λi=>i<=f.sels.length /\ ∀ j,j<i->D5 p f (aO f j)=0) (λi=>f.sels.length - i) ?_ ?_)
 ·refine ⟨0,?_,?_⟩;{exact ⟨abq _,λj hj=>by omega⟩};refine em [(.s 2 0,1),(.s 3 0,1)] ⟨⟨_,rfl,abd _⟩,⟨_,rfl,abd _⟩,tt⟩ ⟨⟨rfl,_,rfl,bM rfl rfl (by decide) rfl rfl rfl⟩,⟨rfl,_,rfl,bM rfl rfl (by decide) rfl rfl rfl⟩,cq,cq,cq,tt⟩ trivial
 rintro i ⟨hi,hn⟩;refine sg rfl (sq ?_);refine cd rfl (λu=>?_) (λu=>?_);{(have c:i<f.sels.length:=by simpa using u);have z:=BR a0 i c;(have a4:(aO f i).cases.length<=4:=by simp only [Fv,abf,acf]at z;simp only [aO];omega);refine sk (sq (bk (sq (rgs [] rfl ?_ ?_))));{simp [ay,under];omega};refine sq (sq (rg [] rfl ?_));refine bk (WP.loop (α:=Nat) (λk=>aN [(2,.rp 26 (aj p)),(3,.rp 100 (dQ f)),(6,.rp 103 (gB (aO f i))),(10,rowP 103 gB qE f.sels),(11,.int f.sels.length),(12,.int i),(17,rowP 215 pz DC (aO f i).cases),(18,.int (aO f i).cases.length),(19,.int k)] []) (λk=>k<=(aO f i).cases.length /\ ∀ j,j<k->o7 p f (aA (aO f i) j)=0) (λk=>(aO f i).cases.length - k) ?_ ?_);{refine ⟨0,?_,?_⟩;{exact ⟨abq _,λj hj=>by omega⟩};refine em [(.s 6 0,1)] ⟨⟨_,rfl,abd _⟩,tt⟩ ⟨cq,cq,⟨rfl,_,rfl,bM rfl rfl (by decide) rfl rfl rfl⟩,cq,cq,cq,cq,cq,cq,tt⟩ trivial};rintro k ⟨hk,hc⟩;refine sg rfl (sq ?_);refine cd rfl (λv=>?_) (λv=>?_);{(have d:k<(aO f i).cases.length:=by simpa using v);refine sk (sq (bk (sq (rgs [] rfl ?_ ?_))));{have a2:k<(f.sels[i]?.getD qE).cases.length:=d;simp [ay,under];omega};refine sq (sq (rgs [CG.pure (.bool (dI (aA (aO f i) k).chan p.chans.length))] rfl ?_ ?_));{have o:=iZ (aA (aO f i) k).chan p.chans.length;refine ⟨⟨rfl,rfl⟩,?_⟩;exact o};refine cd rfl (λw=>?_) (λw=>?_);{have hb:dN (aA (aO f i) k).chan p.chans.length≠0:=(abU _ _).2 (by simpa using w);refine sg rfl (rX ?_);refine bf hT (by rfl) ?_;rw [kT c hn (mP d hc (by rw [o7,aa2 hb]) (by decide)) (by decide)]};(have hb:dN (aA (aO f i) k).chan p.chans.length=0:=by(have e:dI (aA (aO f i) k).chan p.chans.length=true:=by simpa using w);rw [dN,aa2 e]);have y:=rC hb;refine sk (sq (sq (rgs [CG.pure (.bool (dI (aA (aO f i) k).reg f.regs))] rfl ?_ ?_)));{have o:=iZ (aA (aO f i) k).reg f.regs;simp [ay,under,CG.pure];refine ⟨o,?_⟩;intro a b;simp [a,b]};refine cd rfl (λx=>?_) (λx=>?_);{(have t:((aA (aO f i) k).send||(aA (aO f i) k).reg != -1)=true/\eY f (aA (aO f i) k).reg≠0:=by have e:(bif !dI (aA (aO f i) k).reg f.regs then (bif (aA (aO f i) k).send then true else (aA (aO f i) k).reg != -1)else false)=true:=x;rw [band,fG,abf]at e;exact ⟨e.2,(XI _ _).2 (by simpa using e.1)⟩);refine sg rfl (rX ?_);refine bf hT (by rfl) ?_;rw [kT c hn (mP d hc (by rw [o7,xw (λh=>h hb),aa2 t]) (by decide)) (by decide)]};(have t:¬ (((aA (aO f i) k).send||(aA (aO f i) k).reg != -1)=true/\eY f (aA (aO f i) k).reg≠0):=by have e:(bif !dI (aA (aO f i) k).reg f.regs then (bif (aA (aO f i) k).send then true else (aA (aO f i) k).reg != -1)else false)=false:=x;rw [band,fG]at e;rintro ⟨a,b⟩;rw [a,(XI _ _).1 b]at e;cases e);refine sk (sq (sq (rgs [] rfl ?_ ?_)));{simp [ay,under];exact λ_=>y};refine cd rfl (λg=>?_) (λg=>?_);{(have hz:((aA (aO f i) k).send&&p.chans.getD (aA (aO f i) k).chan.toNat 0==0)=true:=by have e:(bif (aA (aO f i) k).send then p.chans.getD (aA (aO f i) k).chan.toNat 0==0 else false)=true:=g;rwa [band]at e);refine sg rfl (rX ?_);refine bf hT (by rfl) ?_;rw [kT c hn (mP d hc (by rw [o7,xw (λh=>h hb),xw t,aa2 hz]) (by decide)) (by decide)]};(have hz:¬ ((aA (aO f i) k).send&&p.chans.getD (aA (aO f i) k).chan.toNat 0==0)=true:=by have e:(bif (aA (aO f i) k).send then p.chans.getD (aA (aO f i) k).chan.toNat 0==0 else false)=false:=g;rw [band]at e;rw [e];decide);(have q:o7 p f (aA (aO f i) k)=eG f (aA (aO f i) k).to:=by rw [o7,xw (λh=>h hb),xw t,xw hz]);refine sk (sq (rgs [CG.pure (.bool (dI (aA (aO f i) k).to f.code.length))] rfl ?_ ?_));{have o:=iZ (aA (aO f i) k).to f.code.length;refine ⟨⟨rfl,rfl⟩,?_⟩;exact o};refine cd rfl (λl=>?_) (λl=>?_);{(have ht:eG f (aA (aO f i) k).to=38:=by(have e:dI (aA (aO f i) k).to f.code.length=false:=by simpa using l);rw [eG,e];rfl);refine sg rfl (rX ?_);refine bf hT (by rfl) ?_;rw [kT c hn (mP d hc (by rw [q,ht]) (by decide)) (by decide)]};(have ht:eG f (aA (aO f i) k).to=0:=by(have e:dI (aA (aO f i) k).to f.code.length=true:=by simpa using l);rw [eG,aa2 e]);refine sk (rg [] rfl ?_);refine ⟨k+1,?_,?_,?_⟩;{exact ⟨d,je hc (by rw [q,ht])⟩};{refine eX cX trivial};(try simp only []);first | omega | grind};(have d:k=(aO f i).cases.length:=by simp only [acD]at v;omega);subst d;(have r:D5 p f (aO f i)=zG f (aO f i):=by rw [D5,lN hc];simp);refine xt (sq (rgs [CG.pure (.bool (dI (aO f i).els f.code.length))] rfl ?_ ?_));{have o:=iZ (aO f i).els f.code.length;simp [ay,under,CG.pure];exact λ_=>o};refine cd rfl (λn=>?_) (λn=>?_);{(have he:zG f (aO f i)=38:=by have e:(bif (aO f i).els != -1 then !dI (aO f i).els f.code.length else false)=true:=n;rw [band,abf,aeU]at e;rw [zG,aa2 (by simpa using e.1),eG,e.2];rfl);refine sg rfl (rX ?_);refine bf hT (by rfl) ?_;rw [kT c hn (by rw [r,he]) (by decide)]};(have he:zG f (aO f i)=0:=by have e:(bif (aO f i).els != -1 then !dI (aO f i).els f.code.length else false)=false:=n;rw [band]at e;rw [zG];split;{rename_i h1;rw [show ((aO f i).els != -1)=true by simpa using h1,adZ]at e;rw [eG,aa2 (by simpa using e)]};rfl);refine sk (rg [] rfl ?_);refine ⟨i+1,?_,?_,?_⟩;{exact ⟨c,je hn (by rw [r,he])⟩};{refine eX cX trivial};(try simp only []);first | omega | grind};(have c:i=f.sels.length:=by simp at u;omega);subst c;refine xt (sq (rg [] rfl ?_));exact WP.ret (bf hT (by rfl) (by rw [rF,lN hn]))
def fkE {α:Type} (g:α->Int):List α->Nat
 | []=>0
 | x::r=>if g x≠0 then 0 else fkE g r+1
theorem Rq {α:Type} {g:α->Int} {d:α}:∀ {l:List α} {i:Nat},i<l.length->(∀ j,j<i->g (l.getD j d)=0)->g (l.getD i d)≠0->fkE g l=i
 | x::r,0,_,_,hb=>by have a:g x≠0:=hb;rw [fkE,aa2 a]
 | x::r,i+1,hi,hn,hb=>by have b:=hn 0 (by omega);rw [fkE,xw (by simpa using b)];rw [Rq (l:=r) (i:=i) (by simpa using hi) (λj c=>hn (j+1) (by omega)) hb]
def yF (a b:Int):AV:=bC 128 [.int a,.int b]
def yO (f:gq):Int:=(f.code.getD (f.code.length - 1) mZ).op
def uQ (op:Int):Bool:=op==42||op==45||op==61
theorem Ry {x:Int} (h:(x==42)=true):uQ x=true:=by rw [uQ,h];rfl
theorem Rx {x:Int} (h:(x==45)=true):uQ x=true:=by rw [uQ,h];simp
theorem Rw {x:Int} (h:(x==61)=true):uQ x=true:=by rw [uQ,h];simp
theorem TY {x:Int} (a:(x==42)=false) (b:(x==45)=false) (c:(x==61)=false):uQ x=false:=by rw [uQ,a,b,c];rfl
def uw (p:ak) (f:gq) (main:Bool):Int×Int :=
 if gy f main=false then (32,0)else if rF p f≠0 then (rF p f,0)else
 if Bq (jA p f) f.code≠0 then (Bq (jA p f) f.code,fkE (jA p f) f.code)else
 if uQ (yO f)then (0,0)else (39,(f.code.length:Int) - 1)
abbrev aV (p:ak) (i:Nat):gq:=p.funcs.getD i jI
def rG (p:ak):Nat->Nat->Int×Int×Int
 | 0,_=>(0,0,0)
 | n+1,i=>if (uw p (aV p i) (i==0)).1≠0 then ((uw p (aV p i) (i==0)).1,i,(uw p (aV p i) (i==0)).2)else rG p n (i+1)
def pK (p:ak):Int×Int×Int:=if kZ p≠0 then (kZ p,0,0)else rG p p.funcs.length 0
theorem vK {p:ak}:∀ {i n:Nat},i<=n->(∀ j,j<i->(uw p (aV p j) (j==0)).1=0)->rG p n 0=rG p (n - i) i
 | 0,n,_,_=>rfl
 | i+1,n,h,hn=>by rw [vK (i:=i) (by omega) (λj a=>hn j (by omega)),show n - i=(n - (i+1))+1 by omega,rG,xw (λh=>h (hn i (by omega)))]
theorem rO {p:ak} {i:Nat} {e pc:Int} (hw:kZ p=0) (hi:i<p.funcs.length) (hn:∀ j,j<i->(uw p (aV p j) (j==0)).1=0) (he:uw p (aV p i) (i==0)=(e,pc)) (a:e≠0):pK p=(e,(i:Int),pc):=by
 rw [pK,xw (by simp [hw]),vK (Nat.le_of_lt hi) hn,show p.funcs.length - i=(p.funcs.length - i - 1)+1 by omega,rG,he,aa2 a]
theorem PV {p:ak} (hw:kZ p=0) (hn:∀ j,j<p.funcs.length->(uw p (aV p j) (j==0)).1=0):pK p=(0,0,0):=by
 rw [pK,xw (by simp [hw]),vK (abd _) hn,Nat.sub_self];rfl
def zH (p:ak):AV := .tup [.int (pK p).1,yF (pK p).2.1 (pK p).2.2]
theorem QV (a b:Int):fC (yF a b)=true:=rfl
theorem lQ {nt:Nat} {st:St} {p:ak} {e a b:Int} {B:Ad} (hc:pK p=(e,a,b)) (i:st.t 2=some (.always,.int e)) (j:st.t 3=some (.always,.ptr (.s 3 0) 1 0 [])) (hm:st.m (.s 3 0)=some (.cells B)) (f:B.ty=128) (d:B.n=1) (c:B.fz=0) (h:Conv st.m (λid=>dW id []) T (B.get 0) (yF a b)):Fin T aH nt 0 [.tmp 2,.cell 3 128] (zH p) [] st:=by
 obtain ⟨ty,n,get,fz⟩:=B;simp only at f d c h;subst f d c;rw [zH,hc];refine Fin.ent (xu.mk (P:=Tryz.prog) hT [] (ts:=[(2,.int e),(3,.ptr (.s 3 0) 1 0 [])]) (ms:=[(.s 3 0,.cells ⟨128,1,λ_=>yF a b,0⟩)]) trivial ⟨⟨rfl,_,i,ah rfl⟩,⟨rfl,_,j,ah rfl⟩,tt⟩ ⟨⟨λ_ _=>rfl,.inl ⟨_,hm,_,_,rfl,abd _,abq _,abq _,λq g=>?_⟩⟩,tt⟩ rfl) ?_
 ·(obtain rfl:q=0:=by simp at g;exact g);exact h
 refine aJ hT [(.s 3 0,1)] (ts:=[(2,.int e),(3,.rp 128 (yF a b))]) (l:=[.int e,yF a b]) ⟨⟨_,rfl,abd _⟩,tt⟩ ⟨⟨rfl,_,rfl,ah rfl⟩,⟨rfl,_,rfl,?_⟩,tt⟩ trivial rfl rfl rfl;exact bM rfl rfl (by simp [dW,aS]) rfl rfl (QV a b)
theorem Ed (p:ak):AC Tryz.prog T aH 111 [aj p] [] (zH p) []:=by
 refine aX Tryz.func111 ?_;refine sg rfl (sq (sq (rgs [CG.pure (.int (kZ p))] rfl ?_ ?_)))
 ·have hw:=WG p;exact ⟨rfl,hw⟩
 refine sg rfl (cd rfl (λu=>?_) (λu=>?_))
 ·(have hw:kZ p≠0:=by simpa using u);refine sg rfl (rX ?_);refine lQ (e:=kZ p) (a:=0) (b:=0) (by rw [pK,aa2 hw]) rfl rfl rfl rfl rfl rfl ?_;exact ah rfl
 ·have hw:kZ p=0:=by simpa using u
  have a5:p.funcs.length<=8:=by(have y:szB p=false:=by unfold kZ at hw;split at hw;{cases hw};rename_i h;simpa using h);simp [szB]at y;omega
  refine sk (sq (sq (rg [] rfl ?_)))
  refine bk (WP.loop (α:=Nat) (λi=>aN [(1,.rp 26 (aj p)),(3,.ptr (.s 3 0) 1 0 []),(21,rowP 100 dQ jI p.funcs),(22,.int p.funcs.length),(23,.int i)] [(.s 3 0,.cells ⟨128,1,λ_=>yF 0 0,0⟩)]) (λi=>i<=p.funcs.length /\ ∀ j,j<i->(uw p (aV p j) (j==0)).1=0) (λi=>p.funcs.length - i) ?_ ?_)
  ·refine ⟨0,?_,?_⟩;{exact ⟨abq _,λj hj=>by omega⟩};refine em [(.s 1 0,1)] ⟨⟨_,rfl,abd _⟩,tt⟩ ⟨⟨rfl,_,rfl,bM rfl rfl (by decide) rfl rfl rfl⟩,cq,cq,cq,cq,tt⟩ ⟨obs rfl,tt⟩
  ·rintro i ⟨hi,hn⟩
   refine sg rfl (sq ?_)
   refine cd rfl (λz=>?_) (λz=>?_)
   ·have c:i<p.funcs.length:=by simpa using z
    refine sk (sq (bk (sq (rgs [] rfl ?_ ?_))))
    ·simp [ay,under];omega
    refine sq (sq (rgs [CG.pure (.int (if gy (aV p i) (i==0)then 0 else 32))] rfl ?_ ?_))
    ·have x:=Xb (aV p i) (i==0);(have ei:((i:Int)==0)=(i==0):=by rw [acs];simp);refine ⟨rfl,?_⟩;(have a1:AC Tryz.prog T aH 155 [dQ (aV p i),.bool ((i:Int)==0)] [] (.int (if gy (aV p i) (i==0)then 0 else 32)) []:=by rw [ei];exact x);exact a1
    refine sg rfl (cd rfl (λv=>?_) (λv=>?_))
    ·(have hb:gy (aV p i) (i==0)=false:=by cases x:gy (aV p i) (i==0)with| false=>rfl| true=>rw [x]at v;simp at v);refine sg rfl (rX ?_);exact lQ (e:=(if gy (aV p i) (i==0)then 0 else 32)) (a:=i) (b:=0) (by rw [hb];exact rO (e:=32) hw c hn (by rw [uw,aa2 hb]) (by decide)) rfl rfl rfl rfl rfl rfl (ah (bH (λq=>by match q with | 0 | 1 | q+2=>rfl)))
    ·have hb:gy (aV p i) (i==0)=true:=by cases x:gy (aV p i) (i==0)with| true=>rfl| false=>rw [x]at v;simp at v
     have a0:(aV p i).code.length<=64/\1<=(aV p i).code.length:=by(have y:Qm (aV p i) (i==0)=true:=by have u:=hb;rw [gy,abf]at u;exact u.1);rw [qY]at y;omega
     refine sk (sq (rg [] rfl ?_))
     refine sq (sq ?_)
     refine wF [(.s 6 0,1),(.s 40 0,1)] ⟨⟨_,rfl,abd _⟩,⟨_,rfl,abd _⟩,tt⟩ [(1,.rp 26 (aj p)),(3,.ptr (.s 3 0) 1 0 []),(5,.int i),(6,.rp 100 (dQ (aV p i))),(8,.rp 257 (zF p (aV p i))),(21,rowP 100 dQ jI p.funcs),(22,.int p.funcs.length),(23,.int i)] [(.s 3 0,.cells ⟨128,1,λ_=>yF 0 0,0⟩)] ⟨cq,cq,cq,⟨rfl,_,rfl,bM rfl rfl (by decide) rfl rfl rfl⟩,⟨rfl,_,rfl,bM rfl rfl (by decide) rfl (bH (λq=>by match q with | 0 | 1 | q+2=>rfl)) rfl⟩,cq,cq,cq,tt⟩ ⟨obs rfl,tt⟩ (rgs [CG.pure (.int (rF p (aV p i)))] rfl ?_ ?_)
     ·have n:=Qs p (aV p i) (i==0) hb;exact n
     refine sg rfl (cd rfl (λo=>?_) (λo=>?_))
     ·(have n:rF p (aV p i)≠0:=by simpa using o);refine sg rfl (rX ?_);exact lQ (e:=rF p (aV p i)) (a:=i) (b:=0) (rO hw c hn (by rw [uw,xw (by rw [hb];decide),aa2 n]) n) rfl rfl rfl rfl rfl rfl (ah (bH (λq=>by match q with | 0 | 1 | q+2=>rfl)))
     ·have n:rF p (aV p i)=0:=by simpa using o
      refine sk (sq (sq (rg [] rfl ?_)))
      refine bk (WP.loop (α:=Nat) (λk=>aN [(1,.rp 26 (aj p)),(3,.ptr (.s 3 0) 1 0 []),(5,.int i),(6,.rp 100 (dQ (aV p i))),(8,.rp 257 (zF p (aV p i))),(21,rowP 100 dQ jI p.funcs),(22,.int p.funcs.length),(23,.int i),(49,rowP 120 aQ mZ (aV p i).code),(50,.int (aV p i).code.length),(51,.int k)] [(.s 3 0,.cells ⟨128,1,λ_=>yF 0 0,0⟩)]) (λk=>k<=(aV p i).code.length /\ ∀ j,j<k->jA p (aV p i) ((aV p i).code.getD j mZ)=0) (λk=>(aV p i).code.length - k) ?_ ?_)
      ·refine ⟨0,?_,?_⟩;{exact ⟨abq _,λj hj=>by omega⟩};refine eX cX ⟨obs rfl,tt⟩
      ·rintro k ⟨hk,hc⟩
       refine sg rfl (sq ?_)
       refine cd rfl (λr=>?_) (λr=>?_)
       ·(have g:k<(aV p i).code.length:=by simpa using r);refine sk (sq (bk (sq (rgs [] rfl ?_ ?_))));{have a3:k<(p.funcs[i]?.getD jI).code.length:=g;simp [ay,under];omega};refine sq (rgs [CG.pure (.int (jA p (aV p i) ((aV p i).code.getD k mZ)))] rfl ?_ ?_);{have hx:=Yn p (aV p i) ((aV p i).code.getD k mZ);refine ⟨rfl,?_⟩;exact hx};refine sg rfl (cd rfl (λt=>?_) (λt=>?_));{(have hx:jA p (aV p i) ((aV p i).code.getD k mZ)≠0:=by simpa using t);refine sg rfl (rX ?_);exact lQ (e:=jA p (aV p i) ((aV p i).code.getD k mZ)) (a:=i) (b:=k) (rO hw c hn (by rw [uw,xw (by rw [hb];decide),xw (λh=>h n),yg g hc hx,Rq g hc hx,aa2 hx]) hx) rfl rfl rfl rfl rfl rfl (ah (bH (λq=>by match q with | 0 | 1 | q+2=>rfl)))};(have hx:jA p (aV p i) ((aV p i).code.getD k mZ)=0:=by simpa using t);refine sk (rg [] rfl ?_);refine ⟨k+1,?_,?_,?_⟩;{exact ⟨g,je hc hx⟩};{refine eX cX ⟨obs rfl,tt⟩};(try simp only []);first | omega | grind
       ·have g:k=(aV p i).code.length:=by simp only [acD]at r;omega
        subst g
        refine xt (sq (rg [] rfl ?_))
        refine sq (rgs [] rfl ?_ ?_)
        ·have a2:(p.funcs[i]?.getD jI).code.length<=64/\1<=(p.funcs[i]?.getD jI).code.length:=a0;simp [ay,under];rw [bK (by omega) (by omega)];omega
        refine bk (sq (sq ?_))
        have w:(aV p i).code.getD (IntKind.i64.wrap (((aV p i).code.length:Int) - 1)).toNat mZ=(aV p i).code.getD ((aV p i).code.length - 1) mZ:=by rw [bK (by omega) (by omega)];congr 1;omega
        have l:((aV p i).code.getD (IntKind.i64.wrap (((aV p i).code.length:Int) - 1)).toNat mZ).op=yO (aV p i):=by rw [w];rfl
        refine rg [] rfl (cd rfl (λd=>?_) (λd=>?_))
        ·refine sk (cd rfl (λd=>?_) (λd=>?_));{refine sk (rg [] rfl ?_);refine ⟨i+1,?_,?_,?_⟩;{refine ⟨c,je hn ?_⟩;(have he:uQ (yO (aV p i))=true:=by first | exact Ry (by rw [<- l];exact d) | exact Rx (by rw [<- l];exact f) | exact Rw (by rw [<- l];exact m));rw [uw,xw (by rw [hb];decide),xw (λh=>h n),xw (λh=>h (lN hc)),aa2 he]};{refine eX cX ⟨obs rfl,tt⟩};(try simp only []);first | omega | grind};simp_all
        ·refine sg rfl (cd rfl (λf=>?_) (λf=>?_))
         ·refine sk (cd rfl (λf=>?_) (λf=>?_));{refine sk (rg [] rfl ?_);refine ⟨i+1,?_,?_,?_⟩;{refine ⟨c,je hn ?_⟩;(have he:uQ (yO (aV p i))=true:=by first | exact Ry (by rw [<- l];exact d) | exact Rx (by rw [<- l];exact f) | exact Rw (by rw [<- l];exact m));rw [uw,xw (by rw [hb];decide),xw (λh=>h n),xw (λh=>h (lN hc)),aa2 he]};{refine eX cX ⟨obs rfl,tt⟩};(try simp only []);first | omega | grind};simp_all
         ·refine rg [] rfl (cd rfl (λm=>?_) (λm=>?_))
          ·refine sk (rg [] rfl ?_);refine ⟨i+1,?_,?_,?_⟩;{refine ⟨c,je hn ?_⟩;(have he:uQ (yO (aV p i))=true:=by first | exact Ry (by rw [<- l];exact d) | exact Rx (by rw [<- l];exact f) | exact Rw (by rw [<- l];exact m));rw [uw,xw (by rw [hb];decide),xw (λh=>h n),xw (λh=>h (lN hc)),aa2 he]};{refine eX cX ⟨obs rfl,tt⟩};(try simp only []);first | omega | grind
          ·refine sg rfl (rX ?_)
           have he:uQ (yO (aV p i))=false:=TY (by rw [<- l];exact d) (by rw [<- l];exact f) (by rw [<- l];exact m)
           exact lQ (e:=39) (a:=i) (b:=IntKind.i64.wrap (((aV p i).code.length:Int) - 1)) (by
            rw [bK (by omega) (by omega)]
            exact rO hw c hn (by rw [uw,xw (by rw [hb];decide),xw (λh=>h n),xw (λh=>h (lN hc)),xw (by rw [he];decide)]) (by decide)) rfl rfl rfl rfl rfl rfl (ah (bH (λq=>by match q with | 0 | 1 | q+2=>rfl)))
   (have c:i=p.funcs.length:=by simp at z;omega)
   subst c
   refine xt (sq (rg [] rfl ?_))
   exact WP.ret (lQ (e:=0) (a:=0) (b:=0) (PV hw hn) rfl rfl rfl rfl rfl rfl (ah rfl))
structure iW where
 status:Int
 func:Int
 pc:Int
 why:Int
 regs:List Int
 deriving DecidableEq
structure iU where
 buf:List Int
 len:Int
 closed:Bool
 offer:Int
 frm:Int
 val:Int
 deriving DecidableEq
structure cZ where
 vars:List Int
 owner:List Int
 chans:List iU
 gos:List iW
 count:Int
 deriving DecidableEq
def go0:iW:=⟨0,0,0,0,[0,0,0,0,0,0,0,0]⟩
def BG:iU:=⟨[0,0,0,0],0,false,0,0,0⟩
def st0:cZ:=⟨[0,0,0,0,0,0,0,0],[0,0,0,0],[BG,BG,BG,BG],[go0,go0,go0,go0,go0,go0],0⟩
def Bd (g:iW):Prop:=g.regs.length=8
def Em (c:iU):Prop:=c.buf.length=4
structure oh (s:cZ):Prop where
 vars:s.vars.length=8
 owner:s.owner.length=4
 chans:s.chans.length=4
 gos:s.gos.length=6
 ch:∀ c∈s.chans,Em c
 go:∀ g∈s.gos,Bd g
def bV (g:iW):AV:=bC 59 [.int g.status,.int g.func,.int g.pc,.int g.why,lC 52 8 .i64 g.regs]
def eF (c:iU):AV:=bC 56 [lC 54 4 .i64 c.buf,.int c.len,.bool c.closed,.int c.offer,.int c.frm,.int c.val]
def yT {α:Type} (t n:Nat) (enc:α->AV) (d:α) (l:List α):AV := .agg t n (λi=>enc (l.getD i d))
def encS (s:cZ):AV:=bC 62 [lC 52 8 .i64 s.vars,lC 53 4 .i64 s.owner,yT 57 4 eF BG s.chans,yT 60 6 bV go0 s.gos,.int s.count]
theorem Qb {α:Type} {t n k:Nat} {enc:α->AV} {d x:α} {l:List α} {p:List Nat} {y:AV} (h:k<l.length) (e:(enc (l.getD k d)).put p y=enc x):(yT t n enc d l).put (k::p) y=yT t n enc d (l.set k x):=by
 simp only [yT,AV.put,AV.agg.injEq,true_and];funext j;cases a:Nat.beq j k with| true=>have:=abA a;subst this;simp only [adD];rw [e];simp [h]| false=>(have:¬ k=j:=λe=>by subst e;simp at a);simp [this]
theorem gI (g:iW) (x:Int):(bV g).put [0] (.int x)=bV { g with status:=x}:=dh (abZ rfl)
theorem qj (g:iW) (x:Int):(bV g).put [2] (.int x)=bV { g with pc:=x}:=dh (abZ rfl)
theorem Ec (g:iW) (x:Int):(bV g).put [3] (.int x)=bV { g with why:=x}:=dh (abZ rfl)
theorem kU {g:iW} {k:Nat} (x:Int) (h:k<g.regs.length):(bV g).put [4,k] (.int x)=bV { g with regs:=g.regs.set k x}:=(dh (abZ rfl)).trans (by rw [show ([AV.int g.status,.int g.func,.int g.pc,.int g.why,lC 52 8 .i64 g.regs].getD 4 .bad)=lC 52 8 .i64 g.regs from rfl,zJ h];rfl)
theorem GZ (g:iW) (l:List Int):(bV g).put [4] (lC 52 8 .i64 l)=bV { g with regs:=l}:=dh (abZ rfl)
theorem Td (g x:iW):(bV g).put [] (bV x)=bV x:=by cases g;rfl
theorem wG {c:iU} {k:Nat} (x:Int) (h:k<c.buf.length):(eF c).put [0,k] (.int x)=eF { c with buf:=c.buf.set k x}:=(dh (abZ rfl)).trans (by rw [show ([lC 54 4 .i64 c.buf,AV.int c.len,.bool c.closed,.int c.offer,.int c.frm,.int c.val].getD 0 .bad)=lC 54 4 .i64 c.buf from rfl,zJ h];rfl)
theorem sZ (c:iU) (x:Int):(eF c).put [1] (.int x)=eF { c with len:=x}:=dh (abZ rfl)
theorem xO (c:iU) (x:Bool):(eF c).put [2] (.bool x)=eF { c with closed:=x}:=dh (abZ rfl)
theorem jY (c:iU) (x:Int):(eF c).put [3] (.int x)=eF { c with offer:=x}:=dh (abZ rfl)
theorem wC (c:iU) (x:Int):(eF c).put [4] (.int x)=eF { c with frm:=x}:=dh (abZ rfl)
theorem mV (c:iU) (x:Int):(eF c).put [5] (.int x)=eF { c with val:=x}:=dh (abZ rfl)
theorem wz {s:cZ} {k:Nat} (x:Int) (h:k<s.vars.length):(encS s).put [0,k] (.int x)=encS { s with vars:=s.vars.set k x}:=(dh (abZ rfl)).trans (ac8 (λz=>bC 62 [z,lC 53 4 .i64 s.owner,yT 57 4 eF BG s.chans,yT 60 6 bV go0 s.gos,.int s.count]) (zJ h))
theorem CJ {s:cZ} {k:Nat} (x:Int) (h:k<s.owner.length):(encS s).put [1,k] (.int x)=encS { s with owner:=s.owner.set k x}:=(dh (abZ rfl)).trans (ac8 (λz=>bC 62 [lC 52 8 .i64 s.vars,z,yT 57 4 eF BG s.chans,yT 60 6 bV go0 s.gos,.int s.count]) (zJ h))
theorem uY {s:cZ} {k:Nat} {p:List Nat} {y:AV} {c:iU} (h:k<s.chans.length) (e:(eF (s.chans.getD k BG)).put p y=eF c):(encS s).put (2::k::p) y=encS { s with chans:=s.chans.set k c}:=(dh (abZ rfl)).trans (ac8 (λz=>bC 62 [lC 52 8 .i64 s.vars,lC 53 4 .i64 s.owner,z,yT 60 6 bV go0 s.gos,.int s.count]) (Qb h e))
theorem ng {s:cZ} {k:Nat} {p:List Nat} {y:AV} {g:iW} (h:k<s.gos.length) (e:(bV (s.gos.getD k go0)).put p y=bV g):(encS s).put (3::k::p) y=encS { s with gos:=s.gos.set k g}:=(dh (abZ rfl)).trans (ac8 (λz=>bC 62 [lC 52 8 .i64 s.vars,lC 53 4 .i64 s.owner,yT 57 4 eF BG s.chans,z,.int s.count]) (Qb h e))
theorem xM (s:cZ) (x:Int):(encS s).put [4] (.int x)=encS { s with count:=x}:=dh (abZ rfl)
theorem adg (s t:cZ):(encS s).put [] (encS t)=encS t:=by cases s;rfl
abbrev goI (s:cZ) (g:Int):iW:=s.gos.getD g.toNat go0
abbrev bW (s:cZ) (c:Int):iU:=s.chans.getD c.toNat BG
abbrev jD (s:cZ) (v:Int):Int:=s.vars.getD v.toNat 0
abbrev mJ (s:cZ) (v:Int):Int:=s.owner.getD v.toNat 0
abbrev bn (g:iW) (r:Int):Int:=g.regs.getD r.toNat 0
theorem uj:oh st0:=⟨rfl,rfl,rfl,rfl,by simp [st0,BG,Em],by simp [st0,go0,Bd]⟩
def fE (p:ak):Bool:=(pK p).1==0
theorem wR {α:Type} {g:α->Int}:∀ {l:List α},Bq g l=0 -> ∀ x∈l,g x=0
 | y::r,h,x,hx=>by rw [Bq]at h;split at h;{rename_i a;exact absurd h a};rename_i b;rcases List.mem_cons.1 hx with rfl | hx;{simpa using b};exact wR h x hx
theorem Aj {p:ak}:∀ {n i:Nat},(rG p n i).1=0 -> ∀ j,i<=j->j<i+n->(uw p (aV p j) (j==0)).1=0
 | 0,i,_,j,h1,h2=>by omega
 | n+1,i,h,j,h1,h2=>by rw [rG]at h;split at h;{rename_i a;exact absurd h a};rename_i b;by_cases e:j=i;{subst e;simpa using b};exact Aj h j (by omega) (by omega)
def jc (f:gq) (n:Int):Prop:=0<=n/\n<f.regs
def aZ (n:Int) (m:Nat):Prop:=0<=n/\n<m
structure DN (p:ak) (f:gq) (x:iG):Prop where
 op:nR x.op=true\/yQ x.op=true
 num:1<=x.op/\x.op<=36->jc f x.a/\jc f x.b
 num2:16<=x.op/\x.op<=36->jc f x.c
 const:x.op=40\/x.op=44\/x.op=65\/x.op=63\/x.op=43->jc f x.a
 move:x.op=41->jc f x.a/\jc f x.b
 jump:x.op=42->aZ x.a f.code.length
 cond:x.op=43->aZ x.b f.code.length
 load:x.op=50->jc f x.a/\aZ x.b p.vars.length
 store:x.op=51\/x.op=54->jc f x.b/\aZ x.a p.vars.length
 bump:x.op=52->(x.a = -1\/jc f x.a)/\aZ x.b p.vars.length/\jc f x.c
 cas:x.op=53->jc f x.a/\aZ x.b p.vars.length/\jc f x.c/\jc f x.n
 lock:x.op=55\/x.op=56->0<=x.a/\x.a<p.locks
 try_:x.op=57->jc f x.a/\0<=x.b/\x.b<p.locks
 send:x.op=58->aZ x.a p.chans.length/\jc f x.b
 recv:x.op=59->(x.a = -1\/jc f x.a)/\aZ x.b p.chans.length/\(x.c = -1\/jc f x.c)
 close:x.op=60->aZ x.a p.chans.length
 sel:x.op=61->aZ x.a f.sels.length
 spawn:x.op=62->(x.a = -1\/jc f x.a)/\aZ x.b p.funcs.length/\(∀ g,g=p.funcs.getD x.b.toNat jI->(g.params=0/\x.c=0)\/0<g.params/\0<=x.c/\(x.c<=IntKind.i64.wrap (f.regs - g.params)))
theorem IB {p:ak} {f:gq} {x:iG}:∀ {n:Nat},qI p f x n=0 -> ∀ k,k<n->aP p f (rY x.op k) ((FB x).getD k 0) x=0
 | n+1,h,k,hk=>by rw [qI]at h;split at h;{rename_i a;exact absurd h a};rename_i b;by_cases e:k=n;{subst e;exact h};exact IB (by simpa using b) k (by omega)
theorem FN {f:gq} {n:Int} (h:eY f n=0):jc f n:=by
 unfold eY at h;split at h
 ·rename_i hw;simpa [dI,jc]using hw
 cases h
theorem KO {f:gq} {n:Int} (h:eG f n=0):aZ n f.code.length:=by
 unfold eG at h;split at h
 ·rename_i hw;simpa [dI,aZ]using hw
 cases h
theorem Zn {p:ak} {n:Int} (h:dw p n=0):aZ n p.vars.length:=by
 unfold dw at h;split at h
 ·rename_i hw;simpa [dI,aZ]using hw
 cases h
theorem aaf {f:gq} {n k:Int} (h:kM f n k=0):(k=0/\n=0)\/k<0\/(0<k/\0<=n/\n<=IntKind.i64.wrap (f.regs - k)):=by
 unfold kM at h;split at h
 ·cases h
 rename_i a;simp at a;omega
theorem lg {p:ak} {f:gq} {x:iG} {c n:Int} (h:aP p f c n x=0) :
 (c=111->n = -1\/jc f n)/\(c=114->jc f n)/\(c=119->jc f n)/\(c=118->aZ n p.vars.length)/\(c=97->aZ n p.vars.length)/\(c=108->0<=n/\n<p.locks)/\(c=99->aZ n p.chans.length) /\
 (c=115->aZ n f.sels.length)/\(c=102->aZ n p.funcs.length)/\(c=116->aZ n f.code.length)/\(c=112->kM f n (p.funcs.getD x.b.toNat jI).params=0):=by
 refine ⟨?_,?_,?_,?_,?_,?_,?_,?_,?_,?_,?_⟩ <;> (intro e;subst e;simp [aP]at h)
 ·by_cases e:n = -1
  ·exact .inl e
  ·exact .inr (FN (by simpa [e]using h))
 ·exact FN h
 ·exact FN h
 ·exact rC h
 ·exact Zn h
 ·exact rC h
 ·exact rC h
 ·exact rC h
 ·exact rC h
 ·exact KO h
 ·exact h
theorem ab1 {p:ak} {f:gq} {x:iG} (hf:∀ g∈p.funcs,0<=g.params) (h:jA p f x=0):DN p f x:=by
 have o:jZ x.op≠[]:=by intro e;simp [jA,e]at h
 have he:qI p f x 4=0:=by unfold jA at h;rw [xw o]at h;split at h;{cases h};exact h
 have hl:∀ k,k<4->rY x.op k=(((jZ x.op)[k]?.getD 0).toNat:Nat):=λk _=>Yk _ _;have H:∀ k,k<4 -> ∀ c:Int,(((jZ x.op)[k]?.getD 0).toNat:Nat)=c->aP p f c ((FB x).getD k 0) x=0:=λk hk c hc=>by have:=IB he k hk;rwa [hl k hk,hc]at this
 have y:(1<=x.op/\x.op<=36)\/(40<=x.op/\x.op<=45)\/(50<=x.op/\x.op<=65):=by revert o;refine Dp (Q:=λl=>l≠[]->_) x.op ?_ ?_ ?_ ?_ ?_ ?_ ?_ ?_ ?_ ?_ ?_ ?_ ?_ ?_ ?_ ?_ ?_ ?_ ?_ ?_ ?_;all_goals first | (intro i _;omega) | (intro _ i;exact absurd rfl i)
 have d:=λc hc=>H 0 (by decide) c hc;have i:=λc hc=>H 1 (by decide) c hc;have j:=λc hc=>H 2 (by decide) c hc;have s:=λc hc=>H 3 (by decide) c hc;have t:(FB x).getD 0 0=x.a:=rfl;have u:(FB x).getD 1 0=x.b:=rfl;have v:(FB x).getD 2 0=x.c:=rfl;have w:(FB x).getD 3 0=x.n:=rfl;rw [t]at d;rw [u]at i;rw [v]at j;rw [w]at s;have F1:1<=x.op/\x.op<=15->jZ x.op=[114,114,45,45]:=λh=>by rw [jZ,aa2 h]
 have r:16<=x.op/\x.op<=36->jZ x.op=[114,114,114,45]:=λh=>by rw [jZ,xw (by omega),aa2 h]
 have R:=λn h=>(lg (p:=p) (f:=f) (x:=x) (c:=114) (n:=n) h).2.1 rfl;refine ⟨?_,?_,?_,?_,?_,?_,?_,?_,?_,?_,?_,?_,?_,?_,?_,?_,?_,?_⟩
 ·simp [nR,yQ];omega
 ·intro h;rcases Int.lt_or_le 15 x.op with q | q;{have e:=r (by omega);exact ⟨R _ (d 114 (by rw [e];rfl)),R _ (i 114 (by rw [e];rfl))⟩};have e:=F1 (by omega);exact ⟨R _ (d 114 (by rw [e];rfl)),R _ (i 114 (by rw [e];rfl))⟩
 ·intro h;have e:=r h;exact R _ (j 114 (by rw [e];rfl))
 ·rintro (h | h | h | h | h) <;> exact R _ (d 114 (by rw [h];rfl))
 ·intro h;exact ⟨R _ (d 114 (by rw [h];rfl)),R _ (i 114 (by rw [h];rfl))⟩
 ·intro h;exact (lg (d 116 (by rw [h];rfl))).2.2.2.2.2.2.2.2.2.1 rfl
 ·intro h;exact (lg (i 116 (by rw [h];rfl))).2.2.2.2.2.2.2.2.2.1 rfl
 ·intro h;exact ⟨R _ (d 114 (by rw [h];rfl)),(lg (i 118 (by rw [h];rfl))).2.2.2.1 rfl⟩
 ·rintro (h | h);{exact ⟨R _ (i 114 (by rw [h];rfl)),(lg (d 118 (by rw [h];rfl))).2.2.2.1 rfl⟩};exact ⟨R _ (i 114 (by rw [h];rfl)),(lg (d 97 (by rw [h];rfl))).2.2.2.2.1 rfl⟩
 ·intro h;exact ⟨(lg (d 111 (by rw [h];rfl))).1 rfl,(lg (i 97 (by rw [h];rfl))).2.2.2.2.1 rfl,R _ (j 114 (by rw [h];rfl))⟩
 ·intro h;exact ⟨R _ (d 114 (by rw [h];rfl)),(lg (i 97 (by rw [h];rfl))).2.2.2.2.1 rfl,R _ (j 114 (by rw [h];rfl)),(lg (s 119 (by rw [h];rfl))).2.2.1 rfl⟩
 ·rintro (h | h) <;> exact (lg (d 108 (by rw [h];rfl))).2.2.2.2.2.1 rfl
 ·intro h;exact ⟨R _ (d 114 (by rw [h];rfl)),(lg (i 108 (by rw [h];rfl))).2.2.2.2.2.1 rfl⟩
 ·intro h;exact ⟨(lg (d 99 (by rw [h];rfl))).2.2.2.2.2.2.1 rfl,R _ (i 114 (by rw [h];rfl))⟩
 ·intro h;exact ⟨(lg (d 111 (by rw [h];rfl))).1 rfl,(lg (i 99 (by rw [h];rfl))).2.2.2.2.2.2.1 rfl,(lg (j 111 (by rw [h];rfl))).1 rfl⟩
 ·intro h;exact (lg (d 99 (by rw [h];rfl))).2.2.2.2.2.2.1 rfl
 ·intro h;exact (lg (d 115 (by rw [h];rfl))).2.2.2.2.2.2.2.1 rfl
 intro h;have hb:=(lg (i 102 (by rw [h];rfl))).2.2.2.2.2.2.2.2.1 rfl;refine ⟨(lg (d 111 (by rw [h];rfl))).1 rfl,hb,λg hg=>?_⟩;have hp:=aaf ((lg (j 112 (by rw [h];rfl))).2.2.2.2.2.2.2.2.2.2 rfl);rw [<- hg]at hp;(have hm:g∈p.funcs:=by(have m:x.b.toNat<p.funcs.length:=by have:=hb.1;have:=hb.2;omega);rw [hg,aae,Y0 m];exact acr m);have:=hf g hm;omega
structure abk (p:ak) (f:gq) (c:zK):Prop where
 chan:aZ c.chan p.chans.length
 reg:(c.send=true\/c.reg ≠ -1)->jc f c.reg
 cap:c.send=true->p.chans.getD c.chan.toNat 0≠0
 to:aZ c.to f.code.length
structure aaY (p:ak) (f:gq) (s:rZ):Prop where
 len:1<=s.cases.length/\s.cases.length<=4
 case:∀ c∈s.cases,abk p f c
 els:s.els ≠ -1->aZ s.els f.code.length
structure xk (p:ak) (f:gq):Prop where
 regs:0<=f.regs/\f.regs<=8
 pars:0<=f.params/\f.params<=f.regs
 code:1<=f.code.length/\f.code.length<=64
 sels:f.sels.length<=4
 ins:∀ x∈f.code,DN p f x
 sel:∀ s∈f.sels,aaY p f s
 last:uQ (yO f)=true
structure qJ (p:ak):Prop where
 vars:p.vars.length<=8
 locks:0<=p.locks/\p.locks<=4
 chans:p.chans.length<=4
 caps:∀ n∈p.chans,0<=n/\n<=4
 funcs:1<=p.funcs.length/\p.funcs.length<=8
 fn:∀ f∈p.funcs,xk p f
 main:(aV p 0).params=0
theorem aaU {p:ak} {f:gq} {c:zK} (h:o7 p f c=0):abk p f c:=by
 unfold o7 at h;split at h
 ·cases h
 rename_i a;split at h;{cases h};rename_i b;split at h;{cases h};rename_i d;refine ⟨rC (by simpa using a),λg=>?_,λi=>?_,KO h⟩;{refine FN (Decidable.byContradiction λhn=>b ⟨?_,hn⟩);rw [adP,bne_iff_ne];exact g};intro e;exact d (by rw [i,e];rfl)
theorem abC {p:ak} {f:gq} {s:rZ} (hb:Fv s=true) (h:D5 p f s=0):aaY p f s:=by
 unfold D5 at h;split at h
 ·rename_i a;exact absurd h a
 rename_i b;refine ⟨by simp [Fv]at hb;omega,λc hc=>aaU (wR (by simpa using b) c hc),λa=>?_⟩;unfold zG at h;rw [aa2 a]at h;exact KO h
theorem kJ {p:ak} (h:fE p=true):qJ p:=by
 have o:(pK p).1=0:=by simpa [fE]using h
 unfold pK at o;split at o
 ·rename_i u;exact absurd o u
 rename_i hw;have hw:kZ p=0:=by simpa using hw
 unfold kZ at hw;split at hw
 ·cases hw
 rename_i r;have hsz:p.vars.length<=8/\(0<=p.locks/\p.locks<=4)/\p.chans.length<=4/\(1<=p.funcs.length/\p.funcs.length<=8):=by simp [szB]at r;omega
 have t:=Aj o;have a:∀ j,j<p.funcs.length->gy (aV p j) (j==0)=true/\rF p (aV p j)=0/\Bq (jA p (aV p j)) (aV p j).code=0/\uQ (yO (aV p j))=true:=λj b=>by have:=t j (by omega) (by omega);unfold uw at this;split at this;{cases this};rename_i q;split at this;{rename_i i;exact absurd this i};rename_i i;split at this;{rename_i l;exact absurd this l};rename_i l;split at this;{rename_i w;exact ⟨by simpa using q,by simpa using i,by simpa using l,w⟩};cases this
 have c:∀ j,j<p.funcs.length->Qm (aV p j) (j==0)=true/\tV (aV p j) (aV p j).sels.length=true:=λj b=>by have:=(a j b).1;simpa [gy]using this
 have d:∀ f∈p.funcs,∃ j,j<p.funcs.length/\f=aV p j:=λf hf=>by obtain ⟨j,b,e⟩:=aeA hf;exact ⟨j,b,by simp [aV,b,e]⟩
 have m:∀ g∈p.funcs,0<=g.params:=λg hg=>by obtain ⟨j,b,rfl⟩:=d g hg;have:=qY.1 (c j b).1;omega
 refine ⟨hsz.1,hsz.2.1,hsz.2.2.1,λn hn=>?_,hsz.2.2.2,λf hf=>?_,?_⟩
 ·have:=wR hw n hn;unfold Fb at this;split at this;{cases this};rename_i q;simp at q;omega
 ·obtain ⟨j,b,rfl⟩:=d f hf;have q:=qY.1 (c j b).1;have i:=a j b;refine ⟨by omega,by omega,by omega,by omega,λx hx=>ab1 m (wR i.2.2.1 x hx),λs r=>?_,i.2.2.2⟩;obtain ⟨k,hk,e⟩:=aeA r;have l:=BR (c j b).2 k hk;(have v:(aV p j).sels.getD k qE=s:=by rw [aae,Y0 hk,e];rfl);rw [v]at l;exact abC l (wR i.2.1 s r)
 have:=qY.1 (c 0 (by omega)).1;have y:¬ ((0==0)=true/\(aV p 0).params>0):=this.2.2.2.2.1;have z:¬ (aV p 0).params>0:=λh=>y ⟨rfl,h⟩;omega
def mF (w o:Int):Bool:=decide ((w=1/\o=44)\/(w=2/\(o=19\/o=20))\/(w=3/\25<=o/\o<=27)\/(w=4/\(o=58\/o=61))\/(w=5/\o=60)\/(w=6/\o=56)\/(w=7/\o=63)\/(w=8/\o=62))
theorem abX (w o:Int):AC Tryz.prog T aH 237 [.int w,.int o] [] (.bool (mF w o)) []:=by
 refine aX Tryz.func237 ?_;refine sg rfl (sq (sq (rg [] rfl ?_)));refine bk (sq (rg [] rfl ?_));refine cd rfl (λe=>?_) (λe=>?_)
 ·refine sg rfl (rX ?_);refine fin1 hT (by rfl) ?_;(try simp only [fG,band]);rw [acs];simp [mF]at *;omega
 refine sg rfl (cd rfl (λf=>?_) (λf=>?_));{refine sg rfl (rX ?_);refine fin1 hT (by rfl) ?_;(try simp only [fG,band]);rw [acs];simp [mF]at *;omega};refine sg rfl (cd rfl (λg=>?_) (λg=>?_));{refine sg rfl (rX ?_);refine fin1 hT (by rfl) ?_;(try simp only [fG,band]);rw [acs];simp [mF]at *;omega};refine sg rfl (cd rfl (λh=>?_) (λh=>?_));{refine sg rfl (rX ?_);refine fin1 hT (by rfl) ?_;(try simp only [fG,band]);rw [acs];simp [mF]at *;omega};refine sg rfl (cd rfl (λa=>?_) (λa=>?_));{refine sg rfl (rX ?_);refine fin1 hT (by rfl) ?_;(try simp only [fG,band]);rw [acs];simp [mF]at *;omega};refine sg rfl (cd rfl (λb=>?_) (λb=>?_));{refine sg rfl (rX ?_);refine fin1 hT (by rfl) ?_;(try simp only [fG,band]);rw [acs];simp [mF]at *;omega};refine sg rfl (cd rfl (λc=>?_) (λc=>?_));{refine sg rfl (rX ?_);refine fin1 hT (by rfl) ?_;(try simp only [fG,band]);rw [acs];simp [mF]at *;omega};refine sg rfl (cd rfl (λd=>?_) (λd=>?_));{refine sg rfl (rX ?_);refine fin1 hT (by rfl) ?_;(try simp only [fG,band]);rw [acs];simp [mF]at *;omega};refine sk (sq (rg [] rfl ?_));refine rX ?_;refine fin1 hT (by rfl) ?_;(try simp only [fG,band]);rw [acs];simp [mF]at *;omega
theorem Rt (w o:Int):AC Tryz.prog T aH 200 [.int o,.int w] [] (.bool (mF w o)) []:=by
 refine aX Tryz.func200 ?_;refine sg rfl (sq (sq (rg [] rfl ?_)));refine bk (sq (rg [] rfl ?_));refine cd rfl (λe=>?_) (λe=>?_)
 ·refine sg rfl (rX ?_);refine fin1 hT (by rfl) ?_;(try simp only [fG,band]);rw [acs];simp [mF]at *;omega
 refine sg rfl (cd rfl (λf=>?_) (λf=>?_));{refine sg rfl (rX ?_);refine fin1 hT (by rfl) ?_;(try simp only [fG,band]);rw [acs];simp [mF]at *;omega};refine sg rfl (cd rfl (λg=>?_) (λg=>?_));{refine sg rfl (rX ?_);refine fin1 hT (by rfl) ?_;(try simp only [fG,band]);rw [acs];simp [mF]at *;omega};refine sg rfl (cd rfl (λh=>?_) (λh=>?_));{refine sg rfl (rX ?_);refine fin1 hT (by rfl) ?_;(try simp only [fG,band]);rw [acs];simp [mF]at *;omega};refine sg rfl (cd rfl (λa=>?_) (λa=>?_));{refine sg rfl (rX ?_);refine fin1 hT (by rfl) ?_;(try simp only [fG,band]);rw [acs];simp [mF]at *;omega};refine sg rfl (cd rfl (λb=>?_) (λb=>?_));{refine sg rfl (rX ?_);refine fin1 hT (by rfl) ?_;(try simp only [fG,band]);rw [acs];simp [mF]at *;omega};refine sg rfl (cd rfl (λc=>?_) (λc=>?_));{refine sg rfl (rX ?_);refine fin1 hT (by rfl) ?_;(try simp only [fG,band]);rw [acs];simp [mF]at *;omega};refine sg rfl (cd rfl (λd=>?_) (λd=>?_));{refine sg rfl (rX ?_);refine fin1 hT (by rfl) ?_;(try simp only [fG,band]);rw [acs];simp [mF]at *;omega};refine sk (sq (rg [] rfl ?_));refine rX ?_;refine fin1 hT (by rfl) ?_;(try simp only [fG,band]);rw [acs];simp [mF]at *;omega
theorem JL (op:Int):AC Tryz.prog T aH 204 [.int op] [] (.bool (nR op)) []:=by
 refine aX Tryz.func204 ?_;refine sg rfl (sg rfl ?_);refine rX ?_;exact fin1 hT (by rfl) (by rw [band,band,fG];rfl)
theorem Ot (op:Int):AC Tryz.prog T aH 235 [.int op] [] (.bool (yQ op)) []:=by
 refine aX Tryz.func235 ?_;refine sg rfl (sg rfl ?_);refine rX ?_;exact fin1 hT (by rfl) (by rw [band];rfl)
theorem DW (p:ak):AC Tryz.prog T aH 141 [aj p] [] (.bool (fE p)) []:=by
 refine aX Tryz.func141 ?_;refine sg rfl (sq (rgs [CG.pure (zH p)] rfl ?_ ?_))
 ·have a:=Ed p;exact au
 exact sg rfl (WP.ret (fin1 hT rfl rfl))
abbrev bP (p:ak) (g:iW):gq:=p.funcs.getD g.func.toNat jI
abbrev insOf (p:ak) (g:iW):iG:=(bP p g).code.getD g.pc.toNat mZ
def oW (p:ak) (g:iW):Prop:=(1<=g.status/\g.status<=5)/\aZ g.func p.funcs.length/\aZ g.pc (bP p g).code.length /\
 (∀ k:Nat,k<8->g.regs.getD k 0=0\/((k:Int)<(bP p g).regs/\g.status≠3/\g.status≠4)) /\
 (g.status=4->mF g.why (insOf p g).op=true)/\(g.status≠4->g.why=0)/\(g.status=3->(insOf p g).op=45)/\(g.status=5->nR (insOf p g).op=true)
instance (n:Int) (m:Nat):Decidable (aZ n m):=by unfold aZ;infer_instance
instance (p:ak) (g:iW):Decidable (oW p g):=by unfold oW;infer_instance
theorem aaI (p:ak) (g:iW):AC Tryz.prog T aH 189 [aj p,bV g] [] (.bool (decide (oW p g))) []:=by
 refine aX Tryz.func189 ?_;refine sg rfl (sq (sq ?_));refine WP.ent (st':=aN [(2,.rp 26 (aj p)),(3,.rp 59 (bV g))] []) (em [(.s 2 0,1),(.s 3 0,1)] ⟨sF,sF,tt⟩ ⟨rq,rq,tt⟩ trivial) ?_;refine rg [] rfl (cd rfl (λn=>?_) (λn=>?_))
 ·simp only [fG]at n;refine sg rfl (rX ?_);refine fin1 hT (by rfl) (aeF (acB λh=>?_));have w:=h.1;have d:=h.2.1;unfold aZ at d;simp [-List.getD_eq_getElem?_getD]at n;omega
 simp only [fG]at n;(have v:(1<=g.status/\g.status<=5)/\aZ g.func p.funcs.length:=by unfold aZ;simp [-List.getD_eq_getElem?_getD]at n;omega);refine sk (sq (rgs [] rfl ?_ ?_));{have:=v.2;unfold aZ at this;simp [-List.getD_eq_getElem?_getD,ay,under];omega};refine sq (sq ?_);refine WP.ent (st':=aN [(5,.rp 100 (dQ (bP p g))),(2,.rp 26 (aj p)),(3,.rp 59 (bV g))] []) (em [(.s 5 0,1)] ⟨sF,tt⟩ ⟨rq,cq,cq,tt⟩ trivial) ?_;refine rg [] rfl (cd rfl (λo=>?_) (λo=>?_));{simp only [fG]at o;refine sg rfl (rX ?_);refine fin1 hT (by rfl) (aeF (acB λh=>?_));have d:=h.2.2.1;unfold aZ at d;simp [-List.getD_eq_getElem?_getD]at o;omega};simp only [fG]at o;(have hp:aZ g.pc (bP p g).code.length:=by unfold aZ;simp [-List.getD_eq_getElem?_getD]at o;omega);refine sk (sq (rg [] rfl ?_));refine sq (sq (rg [] rfl ?_));refine bk (WP.loop (α:=Nat) (λi=>aN [(3,.rp 59 (bV g)),(5,.rp 100 (dQ (bP p g))),(6,.bool (g.status==3||g.status==4)),(57,lC 52 8 .i64 g.regs),(58,.int i)] []) (λi=>i<=8 /\ ∀ k:Nat,k<i->g.regs.getD k 0=0\/((k:Int)<(bP p g).regs/\g.status≠3/\g.status≠4)) (λi=>8 - i) ?_ ?_);{refine ⟨0,?_,?_⟩;{exact ⟨abq _,λj x=>by omega⟩};refine eX ⟨cq,cq,⟨rfl,_,rfl,ah (by rw [fG])⟩,cq,cq,tt⟩ trivial};rintro i ⟨hi,hn⟩;refine sg rfl (sq ?_);refine cd rfl (λu=>?_) (λu=>?_);{(have c:i<8:=by simp [-List.getD_eq_getElem?_getD]at u;omega);refine sk (sq (bk (sq (rgs [] rfl ?_ ?_))));{simp [-List.getD_eq_getElem?_getD,ay,under];omega};refine sg rfl (cd rfl (λa=>?_) (λa=>?_));{simp only [fG,band]at a;refine sg rfl (rX ?_);refine fin1 hT (by rfl) (aeF (acB λh=>?_));have d:=h.2.2.2.1 i c;simp [-List.getD_eq_getElem?_getD]at a;rcases d with d | d;{exact a.1 (by simpa using d)};have:=a.2;grind};simp only [fG,band]at a;refine sk (rg [] rfl ?_);refine ⟨i+1,?_,?_,?_⟩;{exact ⟨c,all_succ hn (by simp [-List.getD_eq_getElem?_getD]at a;by_cases e:g.regs.getD i 0=0;exact .inl e;exact .inr (by have:=a (by simpa using e);grind))⟩};{refine eX cX trivial};(try simp only []);first | omega | grind};(have c:i=8:=by simp [-List.getD_eq_getElem?_getD]at u;omega);subst c;(have fin:∀ b:Bool,(b=true↔(g.status=4->mF g.why (insOf p g).op=true)/\(g.status≠4->g.why=0)/\(g.status=3->(insOf p g).op=45)/\(g.status=5->nR (insOf p g).op=true))->b=decide (oW p g):=λb hb=>by rw [acs,hb,decide_eq_true_iff];exact ⟨λh=>⟨v.1,v.2,hp,hn,h⟩,λh=>h.2.2.2.2⟩);refine xt (sq (rgs [] rfl ?_ ?_));{unfold aZ at hp;simp [-List.getD_eq_getElem?_getD,ay,under];omega};refine sq (sq (rg [] rfl ?_));refine bk (sq (rg [] rfl ?_));refine cd rfl (λf=>?_) (λf=>?_);{(have r:g.status=4:=by simpa using f);refine sq (rgs [CG.pure (.bool (mF g.why (insOf p g).op))] rfl ?_ ?_);{exact abX _ _};refine rX ?_;refine fin1 hT (by rfl) (fin _ ?_);simp [r]};(have r:g.status≠4:=by simpa using f);refine sg rfl (cd rfl (λl=>?_) (λl=>?_));{(have q:g.status=3:=by simpa using l);refine sg rfl (rX ?_);refine fin1 hT (by rfl) (fin _ ?_);simp only [band];simp [q]};(have q:g.status≠3:=by simpa using l);refine sg rfl (cd rfl (λm=>?_) (λm=>?_));{(have t:g.status=5:=by simpa using m);refine sq (rgs [CG.pure (.bool (nR (insOf p g).op))] rfl ?_ ?_);{have y:=JL (insOf p g).op;exact au};refine rX ?_;refine fin1 hT (by rfl) (fin _ ?_);simp only [band];simp [t]};(have t:g.status≠5:=by simpa using m);refine sk (sq (rg [] rfl ?_));refine rX ?_;refine fin1 hT (by rfl) (fin _ ?_);simp [r,q,t]
def qF (p:ak) (s:cZ) (g c:Int):Prop:=0<=g/\g<s.count/\(goI s g).status=2/\(insOf p (goI s g)).op=58/\(insOf p (goI s g)).a=c
instance (p:ak) (s:cZ) (g c:Int):Decidable (qF p s g c):=by unfold qF;infer_instance
def Yy (p:ak) (s:cZ):Prop:=s.count<=6 /\ ∀ k:Nat,(k:Int)<s.count->oW p (s.gos.getD k go0)
theorem WH (p:ak) (s:cZ) (g c:Int) (hg:Yy p s):AC Tryz.prog T aH 238 [aj p,encS s,.int g,.int c] [] (.bool (decide (qF p s g c))) []:=by
 refine aX Tryz.func238 ?_;refine sg rfl (sq (sq ?_));refine WP.ent (st':=aN [(4,.rp 26 (aj p)),(5,.rp 62 (encS s)),(2,.int g),(3,.int c)] []) (em [(.s 4 0,1),(.s 5 0,1)] ⟨sF,sF,tt⟩ ⟨rq,rq,cq,cq,tt⟩ trivial) ?_;refine rgs [] rfl ?_ ?_
 ·have:=hg.1;simp [-List.getD_eq_getElem?_getD,ay,under];omega
 refine cd rfl (λd=>?_) (λd=>?_)
 ·simp only [fG]at d;refine sg rfl (rX ?_);refine fin1 hT (by rfl) (aeF (acB λh=>?_));obtain ⟨a,b,c,_⟩:=h;simp [-List.getD_eq_getElem?_getD]at d;grind
 simp only [fG]at d;(have i:0<=g/\g<s.count/\(goI s g).status=2:=by simp [-List.getD_eq_getElem?_getD]at d;grind);have hf:=hg.2 g.toNat (by omega);have j:=hg.1;refine sk (sq (drs [] rfl ?_ ?_));{have e:=hf.2.1;have f:=hf.2.2.1;simp only [aZ,bP]at e f;simp [-List.getD_eq_getElem?_getD,ay,under];omega};refine sg rfl (rX ?_);refine fin1 hT (by rfl) ?_;simp only [band];rw [acs,decide_eq_true_iff];unfold qF;simp only [i,true_and];rw [abf,adk,adk]
abbrev vT (p:ak) (c:Nat):Int:=p.chans.getD c 0
abbrev bI (s:cZ) (c:Nat):iU:=s.chans.getD c BG
def uF (p:ak) (s:cZ) (c:Nat):Prop:=((0<=(bI s c).len/\(bI s c).len<=vT p c)/\(0<=(bI s c).offer/\(bI s c).offer<=3)/\((bI s c).offer≠0->vT p c=0)) /\
 (∀ k:Nat,k<4->(bI s c).len<=k->(bI s c).buf.getD k 0=0)/\((bI s c).offer=0->(bI s c).frm=0/\(bI s c).val=0) /\
 ((bI s c).offer=1->(bI s c).closed=false)/\((bI s c).offer=2\/(bI s c).offer=3->(bI s c).val=0)/\((bI s c).offer=3->(bI s c).closed=true)/\((bI s c).offer≠0->qF p s (bI s c).frm c)
instance (p:ak) (s:cZ) (c:Nat):Decidable (uF p s c):=by unfold uF;infer_instance
def uO (p:ak) (s:cZ) (g:Int):Nat->Nat
 | 0=>0
 | c+1=>uO p s g c+if c<p.chans.length/\(bI s c).offer≠0/\(bI s c).frm=g then 1 else 0
theorem LP (p:ak) (s:cZ) (g:Int):∀ c,uO p s g c<=c
 | 0=>abd _
 | c+1=>by have:=LP p s g c;rw [uO];split <;> omega
def xR (p:ak) (s:cZ) (c:Nat):List Int:=(List.range 6).map λg=>(uO p s (g:Nat) c:Int)
theorem X7 (p:ak) (s:cZ) (c:Nat):(xR p s c).length=6:=by simp [xR]
theorem LQ (p:ak) (s:cZ) (c:Nat) {g:Nat} (h:g<6):(xR p s c).getD g 0=uO p s (g:Nat) c:=by simp [xR,h]
theorem JR {p:ak} {s:cZ} {c:Nat} (h:¬ (c<p.chans.length/\(bI s c).offer≠0)):xR p s (c+1)=xR p s c:=by
 unfold xR;refine List.map_congr_left λg hg=>?_;rw [uO,xw (λe=>h ⟨e.1,e.2.1⟩),aeb]
theorem X6 {p:ak} {s:cZ} {c:Nat} (h:c<p.chans.length/\(bI s c).offer≠0) (hf:0<=(bI s c).frm/\(bI s c).frm<6):(xR p s c).set (bI s c).frm.toNat (uO p s (bI s c).frm c+1)=xR p s (c+1):=by
 refine ae0 (by simp [xR]) λi d b=>?_;have hi:i<6:=by simpa [xR]using b
 rw [List.getElem_set];split
 ·rename_i e;simp only [xR,ae1,aeN];(have a:((i:Nat):Int)=(bI s c).frm:=by omega);rw [a,uO,aa2 ⟨h.1,h.2,rfl⟩];omega
 rename_i e;simp only [xR,ae1,aeN];rw [uO,xw (λk=>e (by rw [k.2.2];omega)),aeb]
def KJ (p:ak) (s:cZ) (k:Nat):Prop:=p.vars.length<=k->s.vars.getD k 0=0
def Ee (p:ak) (s:cZ) (k:Nat):Prop:=0<=s.owner.getD k 0/\s.owner.getD k 0<=s.count/\(s.owner.getD k 0≠0->(k:Int)<p.locks)
def Dn (p:ak) (s:cZ) (k:Nat):Prop:=((k:Int)<s.count->oW p (s.gos.getD k go0))/\(s.count<=k->s.gos.getD k go0=go0)
def MV (p:ak) (s:cZ) (k:Nat):Prop:=(k<p.chans.length->uF p s k)/\(p.chans.length<=k->bI s k=BG)
def Gg (p:ak) (s:cZ) (k:Nat):Prop:=(s.gos.getD k go0).status=2->uO p s k 4=1
instance (p:ak) (s:cZ) (k:Nat):Decidable (KJ p s k):=by unfold KJ;infer_instance
instance (p:ak) (s:cZ) (k:Nat):Decidable (Ee p s k):=by unfold Ee;infer_instance
instance (p:ak) (s:cZ) (k:Nat):Decidable (Dn p s k):=by unfold Dn;infer_instance
instance (p:ak) (s:cZ) (k:Nat):Decidable (MV p s k):=by unfold MV;infer_instance
instance (p:ak) (s:cZ) (k:Nat):Decidable (Gg p s k):=by unfold Gg;infer_instance
def dF (p:ak) (s:cZ):Prop:=fE p=true/\(1<=s.count/\s.count<=6)/\(∀ k,k<8->KJ p s k)/\(∀ k,k<4->Ee p s k)/\(∀ k,k<6->Dn p s k)/\(∀ k,k<4->MV p s k)/\(∀ k,k<6->Gg p s k)
instance (p:ak) (s:cZ):Decidable (dF p s):=by unfold dF;infer_instance
theorem RN (p:ak) (s:cZ) (c:Nat) (hp:qJ p) (hg:Yy p s) (hc:c<p.chans.length):AC Tryz.prog T aH 190 [aj p,encS s,.int c] [] (.bool (decide (uF p s c))) []:=by
 refine aX Tryz.func190 ?_;have x:c<4:=adG hc hp.chans;have u:0<=vT p c/\vT p c<=4:=hp.caps _ (by simp [vT,hc]);refine sg rfl (sq ?_);refine WP.ent (st':=aN [(3,.rp 26 (aj p)),(4,.rp 62 (encS s)),(2,.int c)] []) (em [(.s 3 0,1),(.s 4 0,1)] ⟨sF,sF,tt⟩ ⟨rq,rq,cq,tt⟩ trivial) ?_;refine rgs [] rfl ?_ ?_
 ·simp [-List.getD_eq_getElem?_getD,ay,under];omega
 refine sq (sq ?_);refine WP.ent (st':=aN [(7,.rp 56 (eF (bI s c))),(2,.int c),(3,.rp 26 (aj p)),(4,.rp 62 (encS s))] []) (em [(.s 7 0,1)] ⟨sF,tt⟩ ⟨rq,cq,cq,cq,tt⟩ trivial) ?_;refine drs [] rfl ?_ ?_
 ·simp [-List.getD_eq_getElem?_getD,ay,under];omega
 refine cd rfl (λf=>?_) (λf=>?_)
 ·simp only [fG,band]at f;refine sg rfl (rX ?_);refine fin1 hT (by rfl) (aeF (acB λh=>?_));have n:=h.1;simp [-List.getD_eq_getElem?_getD]at f n;grind
 ·simp only [fG,band]at f
  have w:(0<=(bI s c).len/\(bI s c).len<=vT p c)/\(0<=(bI s c).offer/\(bI s c).offer<=3)/\((bI s c).offer≠0->vT p c=0):=by simp [-List.getD_eq_getElem?_getD]at f ⊢;grind
  have hlen:0<=(bI s c).len/\(bI s c).len<=4:=by omega
  refine sk (sq (sq (rgs [] rfl ?_ ?_)))
  ·simp [-List.getD_eq_getElem?_getD,ay,under,qB,qC,capEq];omega
  refine bk (WP.loop (α:=Nat) (λi=>aN [(2,.int c),(3,.rp 26 (aj p)),(4,.rp 62 (encS s)),(7,.rp 56 (eF (bI s c))),(53,.row 2 true (4 - (bI s c).len).toNat (λj => .int ((bI s c).buf.getD ((bI s c).len.toNat+j) 0))),(54,.int (4 - (bI s c).len).toNat),(55,.int i)] []) (λi=>i<=(4 - (bI s c).len).toNat /\ ∀ k:Nat,k<i->(bI s c).buf.getD ((bI s c).len.toNat+k) 0=0) (λi=>8 - i) ?_ ?_)
  ·refine ⟨0,?_,?_⟩;{exact ⟨abq _,λj hj=>by omega⟩};refine eX cX trivial
  ·rintro i ⟨hi,hn⟩
   refine sg rfl (sq ?_)
   refine cd rfl (λo=>?_) (λo=>?_)
   ·(have m:i<(4 - (bI s c).len).toNat:=by simp [-List.getD_eq_getElem?_getD]at o;omega);refine sk (sq (bk (sq (rgs [] rfl ?_ ?_))));{simp [-List.getD_eq_getElem?_getD,ay,under];omega};refine sg rfl (cd rfl (λg=>?_) (λg=>?_));{refine sg rfl (rX ?_);refine fin1 hT (by rfl) (aeF (acB λh=>?_));have n:=h.2.1 ((bI s c).len.toNat+i) (by omega) (by omega);simp [-List.getD_eq_getElem?_getD]at g;exact g n};refine sk (rg [] rfl ?_);refine ⟨i+1,?_,?_,?_⟩;{exact ⟨m,all_succ hn (by simp [-List.getD_eq_getElem?_getD]at g;exact g)⟩};{refine eX cX trivial};(try simp only []);first | omega | grind
   ·have m:i=(4 - (bI s c).len).toNat:=by simp [-List.getD_eq_getElem?_getD]at o;omega
    have l:∀ k:Nat,k<4->(bI s c).len<=k->(bI s c).buf.getD k 0=0:=λk y z=>by have:=hn (k - (bI s c).len.toNat) (by omega);rwa [show (bI s c).len.toNat+(k - (bI s c).len.toNat)=k by omega]at this
    have fin:∀ b:Bool,(b=true↔((bI s c).offer=0->(bI s c).frm=0/\(bI s c).val=0) /\
     ((bI s c).offer=1->(bI s c).closed=false)/\((bI s c).offer=2\/(bI s c).offer=3->(bI s c).val=0)/\((bI s c).offer=3->(bI s c).closed=true)/\((bI s c).offer≠0->qF p s (bI s c).frm c))->b=decide (uF p s c):=λb hb=>by
     rw [acs,hb,decide_eq_true_iff]
     exact ⟨λh=>⟨w,l,h⟩,λh=>h.2.2⟩
    have hw:=WH p s (bI s c).frm c hg
    refine xt (sq (sq (rg [] rfl ?_)))
    refine bk (sq (rg [] rfl ?_))
    refine cd rfl (λa=>?_) (λa=>?_)
    ·(have q:(bI s c).offer=0:=by simp [-List.getD_eq_getElem?_getD]at a;exact a);refine sg rfl (rX ?_);refine fin1 hT (by rfl) (fin _ ?_);simp only [band];simp [-List.getD_eq_getElem?_getD,q]
    (have q:(bI s c).offer≠0:=by simp [-List.getD_eq_getElem?_getD]at a;exact a)
    refine sg rfl (cd rfl (λd=>?_) (λd=>?_));{(have r:(bI s c).offer=1:=by simp [-List.getD_eq_getElem?_getD]at d;exact d);refine sq (rgs [CG.pure (.bool (decide (qF p s (bI s c).frm c)))] rfl ?_ ?_);{exact au};refine rX ?_;refine fin1 hT (by rfl) (fin _ ?_);simp only [band];simp [-List.getD_eq_getElem?_getD,r]};(have r:(bI s c).offer≠1:=by simp [-List.getD_eq_getElem?_getD]at d;exact d);refine sg rfl (cd rfl (λe=>?_) (λe=>?_));{(have t:(bI s c).offer=2:=by simp [-List.getD_eq_getElem?_getD]at e;exact e);refine sq (rgs [CG.pure (.bool (decide (qF p s (bI s c).frm c)))] rfl ?_ ?_);{exact au};refine rX ?_;refine fin1 hT (by rfl) (fin _ ?_);simp only [band];simp [-List.getD_eq_getElem?_getD,t]};(have t:(bI s c).offer≠2:=by simp [-List.getD_eq_getElem?_getD]at e;exact e);(have v:(bI s c).offer=3:=by omega);refine sk (sq (rgs [CG.pure (.bool (decide (qF p s (bI s c).frm c)))] rfl ?_ ?_));{exact au};refine rX ?_;refine fin1 hT (by rfl) (fin _ ?_);simp only [band];simp [-List.getD_eq_getElem?_getD,v];grind
theorem MF (p:ak) (g:iW) (hF:∀ f∈p.funcs,0<=f.regs):AC Tryz.prog T aH 136 [aj p,bV g] [] (.bool (decide (oW p g))) []:=by
 refine aX Tryz.func136 ?_;refine sg rfl (sq (sq ?_));refine WP.ent (st':=aN [(2,.rp 26 (aj p)),(3,.rp 59 (bV g))] []) (em [(.s 2 0,1),(.s 3 0,1)] ⟨sF,sF,tt⟩ ⟨rq,rq,tt⟩ trivial) ?_;refine drs [] rfl ?_ ?_
 ·simp [-List.getD_eq_getElem?_getD,ay,under,fG];grind
 refine cd rfl (λl=>?_) (λl=>?_)
 ·simp only [fG]at l;refine sg rfl (rX ?_);refine fin1 hT (by rfl) (aeF (acB λh=>?_));have h2:=h.1;have w:=h.2.1;have d:=h.2.2.1;simp only [aZ,bP]at w d;simp [-List.getD_eq_getElem?_getD]at l;omega
 simp only [fG]at l;(have m:((1<=g.status/\g.status<=5)/\aZ g.func p.funcs.length)/\aZ g.pc (bP p g).code.length:=by simp only [aZ,bP];simp [-List.getD_eq_getElem?_getD]at l;omega);have hb:=m.1.2;have v:=m.2;simp only [aZ,bP]at hb v;have hr:0<=(bP p g).regs:=hF _ (by rw [bP,aae,Y0 (by omega)];exact acr _);refine sk (sq (rgs [] rfl ?_ ?_));{simp [-List.getD_eq_getElem?_getD,ay,under];omega};refine WP.seqJ (α:=Int) (λn=>aN [(2,.rp 26 (aj p)),(3,.rp 59 (bV g)),(5,.int n)] []) (λn=>n=if g.status=3\/g.status=4 then 0 else (bP p g).regs) ?_ ?_;{refine sg rfl (cd rfl (λd=>?_) (λd=>?_));{refine rg [] rfl ⟨0,?_,?_⟩;{rw [aa2 (by simp only [fG]at d;simpa using d)]};refine eX cX trivial};refine sk ⟨(bP p g).regs,?_,?_⟩;{rw [xw (by simp only [fG]at d;simpa using d)]};refine eX cX trivial};rintro n hn;refine sq (sq ?_);(have z:0<=n:=by rw [hn];split <;> omega);(have a:∀ (x:Int) (k:Nat),(x=0\/((k:Int)<(bP p g).regs/\g.status≠3/\g.status≠4))↔(x=0\/(k:Int)<n):=λx k=>by rw [hn];split <;> omega);refine rg [] rfl (bk ?_);refine WP.loop (α:=Nat) (λi=>aN [(2,.rp 26 (aj p)),(3,.rp 59 (bV g)),(6,.int i)] []) (λi=>n<=i /\ ∀ k:Nat,k<i->k<8->(g.regs.getD k 0=0\/(k:Int)<n)) (λi=>8 - i) ?_ ?_;{refine ⟨n.toNat,?_,?_⟩;{exact ⟨by omega,λj hj _ => .inr (by omega)⟩};refine eX ⟨cq,cq,⟨rfl,_,rfl,ah (by simp [-List.getD_eq_getElem?_getD];omega)⟩,tt⟩ trivial};rintro i ⟨hi,hk⟩;refine sq (sq (rg [] rfl ?_));refine cd rfl (λt=>?_) (λt=>?_);{(have o:i<8:=by simp [-List.getD_eq_getElem?_getD]at t;omega);refine sk (sq (bk (sq (rgs [] rfl ?_ ?_))));{simp [-List.getD_eq_getElem?_getD,ay,under];omega};refine cd rfl (λq=>?_) (λq=>?_);{refine sg rfl (rX ?_);refine fin1 hT (by rfl) (aeF (acB λh=>?_));have w:=(a _ _).1 (h.2.2.2.1 i o);simp [-List.getD_eq_getElem?_getD]at q;omega};refine sk (rg [] rfl ?_);refine ⟨i+1,?_,?_,?_⟩;{refine ⟨by omega,λk y u=>?_⟩;rcases adv k i with h | h;{exact hk k h u};(obtain rfl:k=i:=by omega);simp [-List.getD_eq_getElem?_getD]at q;exact .inl q};{refine eX cX trivial};(try simp only []);first | omega | grind};(have o:8<=i:=by simp [-List.getD_eq_getElem?_getD]at t;omega);have e:∀ k:Nat,k<8->g.regs.getD k 0=0\/((k:Int)<(bP p g).regs/\g.status≠3/\g.status≠4):=λk y=>(a _ _).2 (hk k (by omega) y);(have fin:∀ b:Bool,(b=true↔(g.status=4->mF g.why (insOf p g).op=true)/\(g.status≠4->g.why=0)/\(g.status=3->(insOf p g).op=45)/\(g.status=5->nR (insOf p g).op=true))->b=decide (oW p g):=λb hb=>by rw [acs,hb,decide_eq_true_iff];exact ⟨λh=>⟨m.1.1,m.1.2,m.2,e,h⟩,λh=>h.2.2.2.2⟩);refine xt (sq (drs [] rfl ?_ ?_));{simp [-List.getD_eq_getElem?_getD,ay,under];omega};refine sq (sq (rg [] rfl ?_));refine cd rfl (λc=>?_) (λc=>?_);{(have r:g.status=4:=by simpa using c);refine sq (rgs [CG.pure (.bool (mF g.why (insOf p g).op))] rfl ?_ ?_);{exact Rt _ _};refine rX ?_;refine fin1 hT (by rfl) (fin _ ?_);simp [r]};(have r:g.status≠4:=by simpa using c);have hq:=D9 (insOf p g).op;refine sk (sq (rgs [CG.pure (.bool (nR (insOf p g).op))] rfl ?_ ?_));{exact au};refine rX ?_;refine fin1 hT (by rfl) (fin _ ?_);simp only [band,fG];simp [r];grind
theorem Om (p:ak) (s:cZ) (c:Nat) (hp:qJ p) (hg:Yy p s) (hc:c<p.chans.length):AC Tryz.prog T aH 137 [aj p,encS s,.int c] [] (.bool (decide (uF p s c))) []:=by
 refine aX Tryz.func137 ?_;have a2:c<4:=adG hc hp.chans;have z:0<=vT p c/\vT p c<=4:=hp.caps _ (by simp [vT,hc]);refine sg rfl (sq ?_);refine WP.ent (st':=aN [(3,.rp 26 (aj p)),(4,.rp 62 (encS s)),(2,.int c)] []) (em [(.s 3 0,1),(.s 4 0,1)] ⟨sF,sF,tt⟩ ⟨rq,rq,cq,tt⟩ trivial) ?_;refine rgs [] rfl ?_ ?_
 ·simp [-List.getD_eq_getElem?_getD,ay,under];omega
 refine sq (sq ?_);refine WP.ent (st':=aN [(7,.rp 56 (eF (bI s c))),(2,.int c),(3,.rp 26 (aj p)),(4,.rp 62 (encS s))] []) (em [(.s 7 0,1)] ⟨sF,tt⟩ ⟨rq,cq,cq,cq,tt⟩ trivial) ?_;refine drs [] rfl ?_ ?_
 ·simp [-List.getD_eq_getElem?_getD,ay,under];omega
 refine cd rfl (λo=>?_) (λo=>?_)
 ·simp only [fG,band]at o;refine sg rfl (rX ?_);refine fin1 hT (by rfl) (aeF (acB λh=>?_));have q:=h.1;simp [-List.getD_eq_getElem?_getD]at o q;grind
 ·simp only [fG,band]at o
  have h1:(0<=(bI s c).len/\(bI s c).len<=vT p c)/\(0<=(bI s c).offer/\(bI s c).offer<=3)/\((bI s c).offer≠0->vT p c=0):=by simp [-List.getD_eq_getElem?_getD]at o ⊢;grind
  have hlen:0<=(bI s c).len/\(bI s c).len<=4:=by omega
  refine sk (sq (sq (rg [] rfl ?_)))
  refine bk (WP.loop (α:=Nat) (λi=>aN [(2,.int c),(3,.rp 26 (aj p)),(4,.rp 62 (encS s)),(7,.rp 56 (eF (bI s c))),(8,.int i)] []) (λi=>(bI s c).len<=i /\ ∀ k:Nat,k<i->k<4->(bI s c).len<=k->(bI s c).buf.getD k 0=0) (λi=>8 - i) ?_ ?_)
  ·refine ⟨(bI s c).len.toNat,?_,?_⟩;{exact ⟨by omega,λj hj _ _=>by omega⟩};refine eX ⟨cq,cq,cq,cq,⟨rfl,_,rfl,ah (by simp [-List.getD_eq_getElem?_getD];omega)⟩,tt⟩ trivial
  ·rintro i ⟨hi,hn⟩
   refine sq (sq (rg [] rfl ?_))
   refine cd rfl (λw=>?_) (λw=>?_)
   ·(have u:i<4:=by simp [-List.getD_eq_getElem?_getD]at w;omega);refine sk (sq (bk (sq (rgs [] rfl ?_ ?_))));{simp [-List.getD_eq_getElem?_getD,ay,under];omega};refine cd rfl (λr=>?_) (λr=>?_);{refine sg rfl (rX ?_);refine fin1 hT (by rfl) (aeF (acB λh=>?_));have q:=h.2.1 i u hi;simp [-List.getD_eq_getElem?_getD]at r;exact r q};refine sk (rg [] rfl ?_);refine ⟨i+1,?_,?_,?_⟩;{refine ⟨by omega,λk y l v=>?_⟩;rcases adv k i with h | h;{exact hn k h l v};(obtain rfl:k=i:=by omega);simp [-List.getD_eq_getElem?_getD]at r;exact r};{refine eX cX trivial};(try simp only []);first | omega | grind
   ·have u:4<=i:=by simp [-List.getD_eq_getElem?_getD]at w;omega
    have t:∀ k:Nat,k<4->(bI s c).len<=k->(bI s c).buf.getD k 0=0:=λk y l=>hn k (by omega) y l
    have fin:∀ b:Bool,(b=true↔((bI s c).offer=0->(bI s c).frm=0/\(bI s c).val=0) /\
     ((bI s c).offer=1->(bI s c).closed=false)/\((bI s c).offer=2\/(bI s c).offer=3->(bI s c).val=0)/\((bI s c).offer=3->(bI s c).closed=true)/\((bI s c).offer≠0->qF p s (bI s c).frm c))->b=decide (uF p s c):=λb hb=>by
     rw [acs,hb,decide_eq_true_iff]
     exact ⟨λh=>⟨h1,t,h⟩,λh=>h.2.2⟩
    refine xt (sq (sq (rg [] rfl ?_)))
    refine cd rfl (λl=>?_) (λl=>?_)
    ·(have n:(bI s c).offer=0:=by simp [-List.getD_eq_getElem?_getD]at l;exact l);refine sg rfl (rX ?_);refine fin1 hT (by rfl) (fin _ ?_);simp only [band];simp [-List.getD_eq_getElem?_getD,n]
    (have n:(bI s c).offer≠0:=by simp [-List.getD_eq_getElem?_getD]at l;exact l)
    refine sk (sq (sq (rg [] rfl ?_)))
    refine cd rfl (λf=>?_) (λf=>?_);{simp only [band,fG]at f;refine sg rfl (rX ?_);refine fin1 hT (by rfl) (fin _ ?_);simp [-List.getD_eq_getElem?_getD]at f ⊢;grind};simp only [band,fG]at f;(have m:((bI s c).offer=1->(bI s c).closed=false)/\((bI s c).offer=2\/(bI s c).offer=3->(bI s c).val=0)/\((bI s c).offer=3->(bI s c).closed=true):=by simp [-List.getD_eq_getElem?_getD]at f;grind);have h6:=hg.1;refine sk (sq (sq (rgs [] rfl ?_ ?_)));{simp [-List.getD_eq_getElem?_getD,ay,under];omega};refine cd rfl (λg=>?_) (λg=>?_);{simp only [fG]at g;refine sg rfl (rX ?_);refine fin1 hT (by rfl) (fin _ ?_);(have:¬ qF p s (bI s c).frm c:=by intro h;obtain ⟨a,b,d,_⟩:=h;simp [-List.getD_eq_getElem?_getD]at g;grind);simp [-List.getD_eq_getElem?_getD,n,this]};simp only [fG]at g;(have x:0<=(bI s c).frm/\(bI s c).frm<s.count/\(goI s (bI s c).frm).status=2:=by simp [-List.getD_eq_getElem?_getD]at g;grind);have hf:=hg.2 (bI s c).frm.toNat (by omega);refine sk (sq (drs [] rfl ?_ ?_));{have q:=hf.2.1;have h4:=hf.2.2.1;simp only [aZ,bP]at q h4;simp [-List.getD_eq_getElem?_getD,ay,under];omega};refine sg rfl (rX ?_);refine fin1 hT (by rfl) (fin _ ?_);simp only [band];rw [abf,adk,adk];constructor;{exact λh=>⟨λe=>absurd e n,m.1,m.2.1,m.2.2,λ_=>⟨x.1,x.2.1,x.2.2,h⟩⟩};exact λh=>(h.2.2.2.2 n).2.2.2
theorem gZ {s:cZ} (h:oh s) (k:Nat):Bd (s.gos.getD k go0):=by
 rw [aae];cases hk:s.gos[k]? with| none=>rfl| some g=>exact h.go g (ac7 hk)
theorem kK {s:cZ} (h:oh s) (k:Nat):Em (s.chans.getD k BG):=by
 rw [aae];cases hk:s.chans[k]? with| none=>rfl| some g=>exact h.ch g (ac7 hk)
theorem TB {g:iW} (h:Bd g):(g.status==0&&(g.func==0&&(g.pc==0&&(g.why==0&&(true&&g.regs.getD 0 0==0&&g.regs.getD 1 0==0&&g.regs.getD 2 0==0&&g.regs.getD 3 0==0&&g.regs.getD 4 0==0&&g.regs.getD 5 0==0&&g.regs.getD 6 0==0&&g.regs.getD 7 0==0&&true)))))=decide (g=go0):=by
 obtain ⟨a,b,c,d,l⟩:=g;match l,h with| [x0,x1,x2,x3,x4,x5,x6,x7],_=>rw [acs];simp [go0];grind
theorem Ue {c:iU} (h:Em c):(true&&c.buf.getD 0 0==0&&c.buf.getD 1 0==0&&c.buf.getD 2 0==0&&c.buf.getD 3 0==0&&(c.len==0&&(c.closed==false&&(c.offer==0&&(c.frm==0&&(c.val==0&&true))))))=decide (c=BG):=by
 obtain ⟨l,a,b,c,d,e⟩:=c;match l,h with| [x0,x1,x2,x3],_=>rw [acs];simp [BG];grind
theorem acI (p:ak) (s:cZ):(AV.agg 279 6 λ_=>AV.int 0)=lC 279 6 .i64 (xR p s 0):=bH λi=>by match i with | 0 | 1 | 2 | 3 | 4 | 5=>rfl | i+6=>rfl
theorem Nk (p:ak) (s:cZ) (ho:oh s):AC Tryz.prog T aH 129 [aj p,encS s] [] (.bool (decide (dF p s))) []:=by
 refine aX Tryz.func129 ?_;refine sg rfl (sq (sq ?_));refine WP.ent (st':=aN [(2,.rp 26 (aj p)),(3,.rp 62 (encS s))] []) (em [(.s 2 0,1),(.s 3 0,1)] ⟨sF,sF,tt⟩ ⟨rq,rq,tt⟩ trivial) ?_;refine rgs [CG.pure (.bool (fE p))] rfl ?_ ?_
 ·have hq:=DW p;exact au
 refine cd rfl (λh1=>?_) (λh1=>?_)
 ·simp only [fG]at h1;refine sg rfl (rX ?_);refine fin1 hT (by rfl) (aeF (acB λh=>?_));have h2:=h.1;have l:=h.2.1;simp [-List.getD_eq_getElem?_getD,h2]at h1;omega
 simp only [fG]at h1;(have hr:fE p=true/\(1<=s.count/\s.count<=6):=by simp [-List.getD_eq_getElem?_getD]at h1;cases hz:fE p <;> simp [hz]at h1 ⊢ <;> omega);have hp:=kJ hr.1;have b7:p.locks<=4:=hp.locks.2;refine sk (sq (sq (rg [] rfl ?_)));refine bk (WP.loop (α:=Nat) (λi=>aN [(2,.rp 26 (aj p)),(3,.rp 62 (encS s)),(30,lC 52 8 .i64 s.vars),(31,.int i)] []) (λi=>i<=8 /\ ∀ k,k<i->KJ p s k) (λi=>8 - i) ?_ ?_);{refine ⟨0,?_,?_⟩;{exact ⟨abq _,λj hj=>by omega⟩};refine eX cX trivial};rintro i ⟨hi,hn⟩;refine sg rfl (sq ?_);refine cd rfl (λh4=>?_) (λh4=>?_);{(have a:i<8:=by simp [-List.getD_eq_getElem?_getD]at h4;omega);refine sk (sq (bk (sq (rgs [] rfl ?_ ?_))));{simp [-List.getD_eq_getElem?_getD,ay,under];omega};refine sg rfl (cd rfl (λh6=>?_) (λh6=>?_));{simp only [band]at h6;refine sg rfl (rX ?_);refine fin1 hT (by rfl) (aeF (acB λh=>?_));have l:=h.2.2.1 i a;unfold KJ at l;simp [-List.getD_eq_getElem?_getD]at h6;exact h6.2 (l (by omega))};simp only [band]at h6;refine sk (rg [] rfl ?_);refine ⟨i+1,?_,?_,?_⟩;{exact ⟨a,all_succ hn (λh=>by simp [-List.getD_eq_getElem?_getD]at h6;exact h6 (by omega))⟩};{refine eX cX trivial};(try simp only []);first | omega | grind};(have a:i=8:=by simp [-List.getD_eq_getElem?_getD]at h4;omega);subst a;refine xt (sq (sq (rg [] rfl ?_)));refine bk (WP.loop (α:=Nat) (λj=>aN [(2,.rp 26 (aj p)),(3,.rp 62 (encS s)),(46,lC 53 4 .i64 s.owner),(47,.int j)] []) (λj=>j<=4 /\ ∀ k,k<j->Ee p s k) (λj=>4 - j) ?_ ?_);{refine ⟨0,?_,?_⟩;{exact ⟨abq _,λj hj=>by omega⟩};refine eX cX trivial};rintro j ⟨hj,a8⟩;refine sg rfl (sq ?_);refine cd rfl (λv=>?_) (λv=>?_);{(have q:j<4:=by simp [-List.getD_eq_getElem?_getD]at v;omega);refine sk (sq (bk (sq (rgs [] rfl ?_ ?_))));{simp [-List.getD_eq_getElem?_getD,ay,under];omega};refine sg rfl (cd rfl (λm=>?_) (λm=>?_));{simp only [band,fG]at m;refine sg rfl (rX ?_);refine fin1 hT (by rfl) (aeF (acB λh=>?_));have l:=h.2.2.2.1 j q;unfold Ee at l;simp [-List.getD_eq_getElem?_getD]at m;grind};simp only [band,fG]at m;refine sk (rg [] rfl ?_);refine ⟨j+1,?_,?_,?_⟩;{exact ⟨q,all_succ a8 (by unfold Ee;simp [-List.getD_eq_getElem?_getD]at m;grind)⟩};{refine eX cX trivial};(try simp only []);first | omega | grind};(have q:j=4:=by simp [-List.getD_eq_getElem?_getD]at v;omega);subst q;refine xt (sq (sq (rg [] rfl ?_)));refine bk (WP.loop (α:=Nat) (λk=>aN [(2,.rp 26 (aj p)),(3,.rp 62 (encS s)),(71,yT 60 6 bV go0 s.gos),(72,.int k)] []) (λk=>k<=6 /\ ∀ j,j<k->Dn p s j) (λk=>6 - k) ?_ ?_);{refine ⟨0,?_,?_⟩;{exact ⟨abq _,λj hj=>by omega⟩};refine eX cX trivial};rintro k ⟨hk,a3⟩;refine sg rfl (sq ?_);refine cd rfl (λw=>?_) (λw=>?_);{(have r:k<6:=by simp [-List.getD_eq_getElem?_getD]at w;omega);refine sk (sq (bk (sq (rgs [] rfl ?_ ?_))));{simp [-List.getD_eq_getElem?_getD,ay,under];omega};refine sq (rgs [CG.pure (.bool (decide (oW p (s.gos.getD k go0))))] rfl ?_ ?_);{have hq:=aaI p (s.gos.getD k go0);exact au};refine cd rfl (λd=>?_) (λd=>?_);{simp only [band,fG,adu]at d;rw [TB (gZ ho k)]at d;refine sg rfl (rX ?_);refine fin1 hT (by rfl) (aeF (acB λh=>?_));have l:=h.2.2.2.2.1 k r;unfold Dn at l;simp [-List.getD_eq_getElem?_getD]at d;grind};simp only [band,fG,adu]at d;rw [TB (gZ ho k)]at d;refine sk (rg [] rfl ?_);refine ⟨k+1,?_,?_,?_⟩;{exact ⟨r,all_succ a3 (by unfold Dn;simp [-List.getD_eq_getElem?_getD]at d;grind)⟩};{refine eX cX trivial};(try simp only []);first | omega | grind};(have r:k=6:=by simp [-List.getD_eq_getElem?_getD]at w;omega);subst r;have b3:Yy p s:=⟨hr.2.2,λk hk=>(a3 k (by omega)).1 hk⟩;refine xt (sq (rg [] rfl ?_));refine sq (sq (rg [] rfl ?_));refine bk (WP.loop (α:=Nat) (λc=>aN [(2,.rp 26 (aj p)),(3,.rp 62 (encS s)),(11,.ptr (.s 11 0) 1 0 []),(100,yT 57 4 eF BG s.chans),(101,.int c)] [(.s 11 0,.cells ⟨279,1,λ_=>lC 279 6 .i64 (xR p s c),0⟩)]) (λc=>c<=4 /\ ∀ j,j<c->MV p s j) (λc=>4 - c) ?_ ?_);{refine ⟨0,?_,?_⟩;{exact ⟨abq _,λj hj=>by omega⟩};refine eX cX ⟨obs rfl (hg:=q0 (ah (acI p s))),tt⟩};rintro c ⟨hc,t⟩;refine sg rfl (sq ?_);refine cd rfl (λx=>?_) (λx=>?_);{(have f:c<4:=by simp [-List.getD_eq_getElem?_getD]at x;omega);refine sk (sq (bk (sq (rgs [] rfl ?_ ?_))));{simp [-List.getD_eq_getElem?_getD,ay,under];omega};refine sq (sq (rg [] rfl ?_));refine cd rfl (λy=>?_) (λy=>?_);{(have o:p.chans.length<=c:=by simp [-List.getD_eq_getElem?_getD]at y;omega);refine sq (sq (rg [] rfl ?_));refine cd rfl (λb=>?_) (λb=>?_);{simp only [adu]at b;rw [Ue (kK ho c)]at b;refine sg rfl (rX ?_);refine fin1 hT (by rfl) (aeF (acB λh=>?_));have l:=h.2.2.2.2.2.1 c f;unfold MV at l;simp [-List.getD_eq_getElem?_getD]at b;exact b (l.2 o)};simp only [adu]at b;rw [Ue (kK ho c)]at b;refine sk (xt (rg [] rfl ?_));refine ⟨c+1,?_,?_,?_⟩;{exact ⟨f,all_succ t ⟨λh=>by omega,λ_=>by simp [-List.getD_eq_getElem?_getD]at b;exact b⟩⟩};{refine eX cX ⟨obs rfl (hg:=q0 (ah (by rw [JR (by omega)]))),tt⟩};(try simp only []);first | omega | grind};(have o:c<p.chans.length:=by simp [-List.getD_eq_getElem?_getD]at y;omega);refine sk (sq (sq (rgs [CG.pure (.bool (decide (uF p s c)))] rfl ?_ ?_)));{have hq:=RN p s c hp b3 o;exact au};refine cd rfl (λz=>?_) (λz=>?_);{refine sg rfl (rX ?_);refine fin1 hT (by rfl) (aeF (acB λh=>?_));have l:=(h.2.2.2.2.2.1 c f).1 o;simp [l]at z};(have a2:uF p s c:=by simpa using z);refine sk (sq (rg [] rfl ?_));refine cd rfl (λn=>?_) (λn=>?_);{(have a9:(bI s c).offer≠0:=by simp [-List.getD_eq_getElem?_getD]at n;exact n);have a5:=a2.2.2.2.2.2.2 a9;have u:0<=(bI s c).frm/\(bI s c).frm<6:=⟨a5.1,by have:=a5.2.1;omega⟩;refine rgs [] rfl ?_ ?_;{simp [-List.getD_eq_getElem?_getD,ay,under];omega};refine rg [] rfl ?_;have hl:=LP p s (bI s c).frm c;have h0:=LQ p s c (g:=(bI s c).frm.toNat) (by omega);rw [aeI u.1]at h0;(have hE:(lC 279 6 .i64 (xR p s c)).put [(bI s c).frm.toNat] (.int (IntKind.i64.wrap ((xR p s c).getD (bI s c).frm.toNat 0+1)))=lC 279 6 .i64 (xR p s (c+1)):=by refine (zJ (by rw [X7];omega)).trans (ac8 (lC _ _ _) (Eq.trans ?_ (X6 ⟨o,a9⟩ u)));rw [h0,bK (by omega) (by omega)]);refine ⟨c+1,?_,?_,?_⟩;{exact ⟨f,all_succ t ⟨λ_=>a2,λh=>by omega⟩⟩};{refine eX cX ⟨obs rfl (hg:=q0 (ah hE)),tt⟩};(try simp only []);first | omega | grind};refine sk (rg [] rfl ?_);refine ⟨c+1,?_,?_,?_⟩;{exact ⟨f,all_succ t ⟨λ_=>a2,λh=>by omega⟩⟩};{refine eX cX ⟨obs rfl (hg:=q0 (ah (by rw [JR (λh=>by simp [-List.getD_eq_getElem?_getD]at n;exact h.2 n)]))),tt⟩};(try simp only []);first | omega | grind};(have f:c=4:=by simp [-List.getD_eq_getElem?_getD]at x;omega);subst f;refine xt (sq (sq (rg [] rfl ?_)));refine bk (WP.loop (α:=Nat) (λi=>aN [(3,.rp 62 (encS s)),(11,.ptr (.s 11 0) 1 0 []),(129,yT 60 6 bV go0 s.gos),(130,.int i)] [(.s 11 0,.cells ⟨279,1,λ_=>lC 279 6 .i64 (xR p s 4),0⟩)]) (λi=>i<=6 /\ ∀ j,j<i->Gg p s j) (λi=>6 - i) ?_ ?_);{refine ⟨0,?_,?_⟩;{exact ⟨abq _,λj hj=>by omega⟩};refine eX cX ⟨obs rfl,tt⟩};rintro i ⟨hi,a7⟩;refine sg rfl (sq ?_);refine cd rfl (λa0=>?_) (λa0=>?_);{(have a:i<6:=by simp [-List.getD_eq_getElem?_getD]at a0;omega);refine sk (sq (bk (sq (rgs [] rfl ?_ ?_))));{simp [-List.getD_eq_getElem?_getD,ay,under];omega};refine sq (rgs [] rfl ?_ ?_);{simp [-List.getD_eq_getElem?_getD,ay,under];omega};refine cd rfl (λe=>?_) (λe=>?_);{simp only [band,fG,adu]at e;rw [LQ p s 4 a]at e;refine sg rfl (rX ?_);refine fin1 hT (by rfl) (aeF (acB λh=>?_));have l:=h.2.2.2.2.2.2 i a;unfold Gg at l;simp [-List.getD_eq_getElem?_getD]at e;grind};simp only [band,fG,adu]at e;rw [LQ p s 4 a]at e;refine sk (rg [] rfl ?_);refine ⟨i+1,?_,?_,?_⟩;{exact ⟨a,all_succ a7 (by unfold Gg;simp [-List.getD_eq_getElem?_getD]at e;grind)⟩};{refine eX cX ⟨obs rfl,tt⟩};(try simp only []);first | omega | grind};(have a:i=6:=by simp [-List.getD_eq_getElem?_getD]at a0;omega);subst a;refine xt (sq (rg [] rfl ?_));exact WP.ret (fin1 hT (by rfl) (aeF (adx ⟨hr.1,hr.2,hn,a8,a3,t,a7⟩)))
theorem Qx (p:ak):AC Tryz.prog T aH 61 [aj p] [] (zH p) []:=by
 refine aX Tryz.func61 ?_;refine sg rfl (sq (sq (rg [] rfl ?_)));refine cd rfl (λl=>?_) (λl=>?_)
 ·(have hb:szB p=true:=by simp only [fG]at l;exact l);(have hw:kZ p=30:=by rw [kZ,aa2 hb]);exact sg rfl (WP.ret (lQ (e:=30) (a:=0) (b:=0) (by rw [pK,hw,aa2 (by decide)]) rfl rfl rfl rfl rfl rfl (ah rfl)))
 ·have u:szB p=false:=by simp only [fG]at l;exact l
  have a0:p.chans.length<=4/\p.funcs.length<=8:=by have h9:=u;simp [szB]at h9;omega
  refine sk (sq (sq (rg [] rfl ?_)))
  refine bk (WP.loop (α:=Nat) (λi=>aN [(1,.rp 26 (aj p)),(3,.ptr (.s 3 0) 1 0 []),(46,ints false p.chans),(47,.int p.chans.length),(48,.int i)] [(.s 3 0,.cells ⟨128,1,λ_=>yF 0 0,0⟩)]) (λi=>i<=p.chans.length /\ ∀ j,j<i->Fb (p.chans.getD j 0)=0) (λi=>p.chans.length - i) ?_ ?_)
  ·refine ⟨0,?_,?_⟩;{exact ⟨abq _,λj hj=>by omega⟩};refine em [(.s 1 0,1)] ⟨⟨_,rfl,abd _⟩,tt⟩ ⟨⟨rfl,_,rfl,bM rfl rfl (by decide) rfl rfl rfl⟩,cq,cq,cq,cq,tt⟩ ⟨obs rfl,tt⟩
  ·rintro i ⟨hi,hn⟩
   refine sg rfl (sq ?_)
   refine cd rfl (λy=>?_) (λy=>?_)
   ·(have c:i<p.chans.length:=by simpa using y);refine sk (sq (bk (sq (rgs [] rfl ?_ ?_))));{simp [ay,under];omega};refine sg rfl (cd rfl (λw=>?_) (λw=>?_));{(have hx:Fb (p.chans.getD i 0)=31:=by simp only [fG]at w;exact aa2 w);(have hw:kZ p=31:=by rw [kZ,u,xw (by simp),yg c hn (by rw [hx];decide),hx]);exact sg rfl (WP.ret (lQ (e:=31) (a:=0) (b:=0) (by rw [pK,hw,aa2 (by decide)]) rfl rfl rfl rfl rfl rfl (ah rfl)))};(have hx:Fb (p.chans.getD i 0)=0:=by simp only [fG]at w;exact xw (by rw [show (decide (p.chans.getD i 0<0)||decide (p.chans.getD i 0>4))=false from w];decide));refine sk (rg [] rfl ?_);refine ⟨i+1,?_,?_,?_⟩;{exact ⟨c,je hn hx⟩};{refine eX cX ⟨obs rfl,tt⟩};(try simp only []);first | omega | grind
   ·have c:i=p.chans.length:=by simp at y;omega
    subst c
    have hw:kZ p=0:=by rw [kZ,u,xw (by simp),lN hn]
    clear hn hi
    have a7:=a0.2
    refine xt (sq (sq (rg [] rfl ?_)))
    refine bk (WP.loop (α:=Nat) (λi=>aN [(1,.rp 26 (aj p)),(3,.ptr (.s 3 0) 1 0 []),(61,rowP 100 dQ jI p.funcs),(62,.int p.funcs.length),(63,.int i)] [(.s 3 0,.cells ⟨128,1,λ_=>yF 0 0,0⟩)]) (λi=>i<=p.funcs.length /\ ∀ j,j<i->(uw p (aV p j) (j==0)).1=0) (λi=>p.funcs.length - i) ?_ ?_)
    ·refine ⟨0,?_,?_⟩;{exact ⟨abq _,λj hj=>by omega⟩};refine eX cX ⟨obs rfl,tt⟩
    ·rintro i ⟨hi,hn⟩
     refine sg rfl (sq ?_)
     refine cd rfl (λm=>?_) (λm=>?_)
     ·have c:i<p.funcs.length:=by simpa using m
      refine sk (sq (bk (sq (rgs [] rfl ?_ ?_))))
      ·simp [ay,under];omega
      refine sq (sq (rgs [CG.pure (.bool (gy (aV p i) (i==0)))] rfl ?_ ?_))
      ·have v:=VJ i (aV p i);refine ⟨rfl,?_⟩;exact v
      refine cd rfl (λn=>?_) (λn=>?_)
      ·(have hb:gy (aV p i) (i==0)=false:=by simpa using n);exact sg rfl (WP.ret (lQ (e:=32) (a:=i) (b:=0) (rO (e:=32) hw c hn (by rw [uw,aa2 hb]) (by decide)) rfl rfl rfl rfl rfl rfl (ah (bH (λq=>by match q with | 0 | 1 | q+2=>rfl)))))
      ·have hb:gy (aV p i) (i==0)=true:=by simpa using n
       have z:(aV p i).code.length<=64/\1<=(aV p i).code.length:=by(have l:Qm (aV p i) (i==0)=true:=by have h2:=hb;rw [gy,abf]at h2;exact h2.1);rw [qY]at l;omega
       refine sk (sq (rgs [CG.pure (.int (rF p (aV p i)))] rfl ?_ ?_))
       ·have g:=NY p (aV p i) (i==0) hb;refine ⟨rfl,?_⟩;exact g
       refine sq (sq (rg [] rfl ?_))
       refine cd rfl (λo=>?_) (λo=>?_)
       ·(have g:rF p (aV p i)≠0:=by simpa using o);refine sg rfl (rX ?_);exact lQ (e:=rF p (aV p i)) (a:=i) (b:=0) (rO hw c hn (by rw [uw,xw (by rw [hb];decide),aa2 g]) g) rfl rfl rfl rfl rfl rfl (ah (bH (λq=>by match q with | 0 | 1 | q+2=>rfl)))
       ·have g:rF p (aV p i)=0:=by simpa using o
        refine sk (sq (sq (rg [] rfl ?_)))
        refine bk (WP.loop (α:=Nat) (λk=>aN [(1,.rp 26 (aj p)),(3,.ptr (.s 3 0) 1 0 []),(6,.int i),(7,.rp 100 (dQ (aV p i))),(61,rowP 100 dQ jI p.funcs),(62,.int p.funcs.length),(63,.int i),(83,rowP 120 aQ mZ (aV p i).code),(84,.int (aV p i).code.length),(85,.int k)] [(.s 3 0,.cells ⟨128,1,λ_=>yF 0 0,0⟩)]) (λk=>k<=(aV p i).code.length /\ ∀ j,j<k->jA p (aV p i) ((aV p i).code.getD j mZ)=0) (λk=>(aV p i).code.length - k) ?_ ?_)
        ·refine ⟨0,?_,?_⟩;{exact ⟨abq _,λj hj=>by omega⟩};refine em [(.s 7 0,1)] ⟨⟨_,rfl,abd _⟩,tt⟩ ⟨cq,cq,cq,⟨rfl,_,rfl,bM rfl rfl (by decide) rfl rfl rfl⟩,cq,cq,cq,cq,cq,cq,tt⟩ ⟨obs rfl,tt⟩
        ·rintro k ⟨hk,hc⟩
         refine sg rfl (sq ?_)
         refine cd rfl (λr=>?_) (λr=>?_)
         ·(have f:k<(aV p i).code.length:=by simpa using r);refine sk (sq (bk (sq (rgs [] rfl ?_ ?_))));{have a4:k<(p.funcs[i]?.getD jI).code.length:=f;simp [ay,under];omega};refine sq (rgs [CG.pure (.int (jA p (aV p i) ((aV p i).code.getD k mZ)))] rfl ?_ ?_);{have hx:=U0 p (aV p i) ((aV p i).code.getD k mZ);refine ⟨rfl,?_⟩;exact hx};refine sg rfl (cd rfl (λt=>?_) (λt=>?_));{(have hx:jA p (aV p i) ((aV p i).code.getD k mZ)≠0:=by simpa using t);refine sg rfl (rX ?_);exact lQ (e:=jA p (aV p i) ((aV p i).code.getD k mZ)) (a:=i) (b:=k) (rO hw c hn (by rw [uw,xw (by rw [hb];decide),xw (λh=>h g),yg f hc hx,Rq f hc hx,aa2 hx]) hx) rfl rfl rfl rfl rfl rfl (ah (bH (λq=>by match q with | 0 | 1 | q+2=>rfl)))};(have hx:jA p (aV p i) ((aV p i).code.getD k mZ)=0:=by simpa using t);refine sk (rg [] rfl ?_);refine ⟨k+1,?_,?_,?_⟩;{exact ⟨f,je hc hx⟩};{refine eX cX ⟨obs rfl,tt⟩};(try simp only []);first | omega | grind
         ·have f:k=(aV p i).code.length:=by simp only [acD]at r;omega
          subst f
          have ho:((aV p i).code.getD (IntKind.i64.wrap (((aV p i).code.length:Int) - 1)).toNat mZ).op=yO (aV p i):=by(have x:(aV p i).code.getD (IntKind.i64.wrap (((aV p i).code.length:Int) - 1)).toNat mZ=(aV p i).code.getD ((aV p i).code.length - 1) mZ:=by rw [bK (by omega) (by omega)];congr 1;omega);rw [x];rfl
          refine xt (sq (rgs [] rfl ?_ ?_))
          ·have a2:(p.funcs[i]?.getD jI).code.length<=64/\1<=(p.funcs[i]?.getD jI).code.length:=z;simp [ay,under];rw [bK (by omega) (by omega)];omega
          refine sg rfl (cd rfl (λd=>?_) (λd=>?_))
          ·have he:uQ (yO (aV p i))=false:=by simp only [band,abf,bne_iff_ne]at d;rw [<- ho];exact TY (by simpa using d.1.1) (by simpa using d.1.2) (by simpa using d.2)
           refine sq (dr [] rfl ?_)
           refine rX ?_
           exact lQ (e:=39) (a:=i) (b:=IntKind.i64.wrap (((aV p i).code.length:Int) - 1)) (by
            rw [bK (by omega) (by omega)]
            exact rO hw c hn (by rw [uw,xw (by rw [hb];decide),xw (λh=>h g),xw (λh=>h (lN hc)),xw (by rw [he];decide)]) (by decide)) rfl rfl rfl rfl rfl rfl (ah (bH (λq=>by match q with | 0 | 1 | q+2=>rfl)))
          (have he:uQ (yO (aV p i))=true:=by rw [<- ho];have e:=d;simp only [band]at e;cases v:uQ ((aV p i).code.getD (IntKind.i64.wrap (((aV p i).code.length:Int) - 1)).toNat mZ).op with| true=>rfl| false=>exfalso;simp only [uQ,ad3]at v;simp only [bne,v.1.1,v.1.2,v.2]at e;(cases e))
          refine sk (rg [] rfl ?_)
          refine ⟨i+1,?_,?_,?_⟩;{refine ⟨c,je hn ?_⟩;rw [uw,xw (by rw [hb];decide),xw (λh=>h g),xw (λh=>h (lN hc)),aa2 he]};{refine eX cX ⟨obs rfl,tt⟩};(try simp only []);first | omega | grind
     (have c:i=p.funcs.length:=by simp at m;omega)
     subst c
     refine xt (sq (rg [] rfl ?_))
     exact WP.ret (lQ (e:=0) (a:=0) (b:=0) (PV hw hn) rfl rfl rfl rfl rfl rfl (ah rfl))
theorem Cc (p:ak):AC Tryz.prog T aH 24 [aj p] [] (.bool ((pK p).1==0)) []:=by
 refine aX Tryz.func24 ?_;refine sg rfl (sq (rgs [CG.pure (zH p)] rfl ?_ ?_))
 ·have hc:=Qx p;exact ⟨⟨rfl,hc⟩,rfl,abd _⟩
 exact sg rfl (WP.ret (fin1 hT (by rfl) rfl))
theorem X5 {p:ak} {s:cZ} {g:Int} (h:∀ k,k<4->p.chans.length<=k->bI s k=BG):∀ c,c<4->uO p s g (c+1)=uO p s g c+if (bI s c).offer≠0/\(bI s c).frm=g then 1 else 0:=λc hc=>by
 rw [uO];by_cases a:c<p.chans.length
 ·simp only [a,true_and]
 ·rw [xw (λe=>a e.1),h c hc (by omega)];rfl
theorem UK (p:ak) (s:cZ) (ho:oh s):AC Tryz.prog T aH 91 [aj p,encS s] [] (.bool (decide (dF p s))) []:=by
 refine aX Tryz.func91 ?_;refine sg rfl (sq (sq ?_));refine WP.ent (st':=aN [(2,.rp 26 (aj p)),(3,.rp 62 (encS s))] []) (em [(.s 2 0,1),(.s 3 0,1)] ⟨sF,sF,tt⟩ ⟨rq,rq,tt⟩ trivial) ?_;refine rgs [CG.pure (.bool (fE p))] rfl ?_ ?_
 ·have hq:=Cc p;exact au
 refine cd rfl (λv=>?_) (λv=>?_)
 ·simp only [fG]at v;refine sg rfl (rX ?_);refine fin1 hT (by rfl) (aeF (acB λh=>?_));have h2:=h.1;have o:=h.2.1;simp [-List.getD_eq_getElem?_getD,h2]at v;omega
 simp only [fG]at v;(have hr:fE p=true/\(1<=s.count/\s.count<=6):=by simp [-List.getD_eq_getElem?_getD]at v;cases hz:fE p <;> simp [hz]at v ⊢ <;> omega);have hp:=kJ hr.1;have hF:∀ f∈p.funcs,0<=f.regs:=λf hf=>(hp.fn f hf).regs.1;have b6:p.locks<=4:=hp.locks.2;have b7:=hp.vars;refine sk (sq (sq (rg [] rfl ?_)));refine bk (WP.loop (α:=Nat) (λk=>aN [(2,.rp 26 (aj p)),(3,.rp 62 (encS s)),(25,.int k)] []) (λk=>k<=6 /\ ∀ j,j<k->Dn p s j) (λk=>6 - k) ?_ ?_);{refine ⟨0,?_,?_⟩;{exact ⟨abq _,λj hj=>by omega⟩};refine eX cX trivial};rintro k ⟨hk,u⟩;refine sg rfl (sq ?_);refine cd rfl (λh4=>?_) (λh4=>?_);{(have t:k<6:=by simp [-List.getD_eq_getElem?_getD]at h4;omega);refine sk (sq (bk (sq (rg [] rfl ?_))));refine sq (drs [CG.pure (.bool (decide (oW p (s.gos.getD k go0))))] rfl ?_ ?_);{have hq:=MF p (s.gos.getD k go0) hF;exact au};refine cd rfl (λh6=>?_) (λh6=>?_);{simp only [band,fG,adu]at h6;rw [TB (gZ ho k)]at h6;refine sg rfl (rX ?_);refine fin1 hT (by rfl) (aeF (acB λh=>?_));have o:=h.2.2.2.2.1 k t;unfold Dn at o;simp [-List.getD_eq_getElem?_getD]at h6;grind};simp only [band,fG,adu]at h6;rw [TB (gZ ho k)]at h6;refine sk (rg [] rfl ?_);refine ⟨k+1,?_,?_,?_⟩;{exact ⟨t,all_succ u (by unfold Dn;simp [-List.getD_eq_getElem?_getD]at h6;grind)⟩};{refine eX cX trivial};(try simp only []);first | omega | grind};(have t:k=6:=by simp [-List.getD_eq_getElem?_getD]at h4;omega);subst t;have b1:Yy p s:=⟨hr.2.2,λk hk=>(u k (by omega)).1 hk⟩;refine xt (sq (sq (rg [] rfl ?_)));refine bk (WP.loop (α:=Nat) (λi=>aN [(2,.rp 26 (aj p)),(3,.rp 62 (encS s)),(6,.int i)] []) (λi=>p.vars.length<=i /\ ∀ k,k<i->k<8->KJ p s k) (λi=>8 - i) ?_ ?_);{refine ⟨p.vars.length,?_,?_⟩;{exact ⟨abd _,λk h _ h2=>by omega⟩};refine eX cX trivial};rintro i ⟨hi,hn⟩;refine sq (sq (rg [] rfl ?_));refine cd rfl (λx=>?_) (λx=>?_);{(have q:i<8:=by simp [-List.getD_eq_getElem?_getD]at x;omega);refine sk (sq (bk (sq (rgs [] rfl ?_ ?_))));{simp [-List.getD_eq_getElem?_getD,ay,under];omega};refine cd rfl (λl=>?_) (λl=>?_);{refine sg rfl (rX ?_);refine fin1 hT (by rfl) (aeF (acB λh=>?_));have o:=h.2.2.1 i q hi;simp [-List.getD_eq_getElem?_getD]at l;exact l o};refine sk (rg [] rfl ?_);refine ⟨i+1,?_,?_,?_⟩;{exact ⟨by omega,all_succ (Q:=λk=>k<8->KJ p s k) hn (λ_ _=>by simp [-List.getD_eq_getElem?_getD]at l;exact l)⟩};{refine eX cX trivial};(try simp only []);first | omega | grind};(have q:8<=i:=by simp [-List.getD_eq_getElem?_getD]at x;omega);refine xt (sq (sq (rg [] rfl ?_)));refine bk (WP.loop (α:=Nat) (λj=>aN [(2,.rp 26 (aj p)),(3,.rp 62 (encS s)),(68,.int j)] []) (λj=>j<=4 /\ ∀ k,k<j->Ee p s k) (λj=>4 - j) ?_ ?_);{refine ⟨0,?_,?_⟩;{exact ⟨abq _,λj hj=>by omega⟩};refine eX cX trivial};rintro j ⟨hj,a5⟩;refine sg rfl (sq ?_);refine cd rfl (λy=>?_) (λy=>?_);{(have r:j<4:=by simp [-List.getD_eq_getElem?_getD]at y;omega);refine sk (sq (bk (sq (rg [] rfl ?_))));refine sq (drs [] rfl ?_ ?_);{simp [-List.getD_eq_getElem?_getD,ay,under];omega};refine cd rfl (λm=>?_) (λm=>?_);{simp only [band,fG]at m;refine sg rfl (rX ?_);refine fin1 hT (by rfl) (aeF (acB λh=>?_));have o:=h.2.2.2.1 j r;unfold Ee at o;simp [-List.getD_eq_getElem?_getD]at m;grind};simp only [band,fG]at m;refine sk (rg [] rfl ?_);refine ⟨j+1,?_,?_,?_⟩;{exact ⟨r,all_succ a5 (by unfold Ee;simp [-List.getD_eq_getElem?_getD]at m;grind)⟩};{refine eX cX trivial};(try simp only []);first | omega | grind};(have r:j=4:=by simp [-List.getD_eq_getElem?_getD]at y;omega);subst r;refine xt (sq (sq (rg [] rfl ?_)));refine bk (WP.loop (α:=Nat) (λc=>aN [(2,.rp 26 (aj p)),(3,.rp 62 (encS s)),(99,.int c)] []) (λc=>c<=4 /\ ∀ j,j<c->MV p s j) (λc=>4 - c) ?_ ?_);{refine ⟨0,?_,?_⟩;{exact ⟨abq _,λj hj=>by omega⟩};refine eX cX trivial};rintro c ⟨hc,a3⟩;refine sg rfl (sq ?_);refine cd rfl (λz=>?_) (λz=>?_);{(have a:c<4:=by simp [-List.getD_eq_getElem?_getD]at z;omega);refine sk (sq (bk (sq (rg [] rfl ?_))));refine sq (rgs [CG.pure (.bool (decide (uF p s c)))] rfl ?_ ?_);{have hq:c<p.chans.length->_:=λh=>Om p s c hp b1 h;simp only [ay,under,CG.pure];(repeat' with_reducible refine And.intro ?_ ?_);(all_goals (try with_reducible intros));all_goals (first | exact trivial | omega | (simp [-List.getD_eq_getElem?_getD];omega) | (refine hq ?_;simp_all;done) | (simp_all;done) | (rcases adv c p.chans.length with b2 | b2 <;> simp_all))};refine cd rfl (λb=>?_) (λb=>?_);{simp only [band,fG,adu]at b;rw [Ue (kK ho c)]at b;refine sg rfl (rX ?_);refine fin1 hT (by rfl) (aeF (acB λh=>?_));have o:=h.2.2.2.2.2.1 c a;unfold MV at o;simp [-List.getD_eq_getElem?_getD]at b;grind};simp only [band,fG,adu]at b;rw [Ue (kK ho c)]at b;refine sk (rg [] rfl ?_);refine ⟨c+1,?_,?_,?_⟩;{exact ⟨a,all_succ a3 (by unfold MV;simp [-List.getD_eq_getElem?_getD]at b;grind)⟩};{refine eX cX trivial};(try simp only []);first | omega | grind};(have a:c=4:=by simp [-List.getD_eq_getElem?_getD]at z;omega);subst a;have w:=λg=>X5 (p:=p) (s:=s) (g:=g) (λk v h2=>(a3 k v).2 h2);refine xt (sq (sq (rg [] rfl ?_)));refine bk (WP.loop (α:=Nat) (λi=>aN [(3,.rp 62 (encS s)),(9,.int i)] []) (λi=>(i:Int)<=s.count /\ ∀ j,j<i->Gg p s j) (λi=>s.count.toNat - i) ?_ ?_);{refine ⟨0,?_,?_⟩;{exact ⟨by omega,λj hj=>by omega⟩};refine eX cX trivial};rintro i ⟨b4,a4⟩;refine sq (sq (rg [] rfl ?_));refine cd rfl (λa0=>?_) (λa0=>?_);{(have q:(i:Int)<s.count:=by simp [-List.getD_eq_getElem?_getD]at a0;omega);refine sk (sq (bk (sq (rg [] rfl ?_))));refine sq (sq (rg [] rfl ?_));refine bk (WP.loop (α:=Nat) (λc=>aN [(3,.rp 62 (encS s)),(9,.int i),(10,.int (uO p s (i:Nat) c)),(136,.int c)] []) (λc=>c<=4) (λc=>4 - c) ?_ ?_);{refine ⟨0,?_,?_⟩;{exact abq _};refine eX cX trivial};rintro c hc;refine sg rfl (sq ?_);refine cd rfl (λa1=>?_) (λa1=>?_);{(have a:c<4:=by simp [-List.getD_eq_getElem?_getD]at a1;omega);refine sk (sq (bk (sq (rg [] rfl ?_))));refine sq (rgs [] rfl ?_ ?_);{simp [-List.getD_eq_getElem?_getD,ay,under];omega};refine cd rfl (λd=>?_) (λd=>?_);{simp only [band,adu]at d;refine rg [] rfl (rg [] rfl ?_);have b5:=LP p s (i:Nat) c;refine ⟨c+1,?_,?_,?_⟩;{exact a};{refine eX ⟨cq,cq,⟨rfl,_,rfl,ah (by rw [w _ c a,aa2 (by simp [-List.getD_eq_getElem?_getD]at d;exact d),bK (by omega) (by omega)];rfl)⟩,cq,tt⟩ trivial};(try simp only []);first | omega | grind};simp only [band,adu]at d;refine sk (rg [] rfl ?_);refine ⟨c+1,?_,?_,?_⟩;{exact a};{refine eX ⟨cq,cq,⟨rfl,_,rfl,ah (by rw [w _ c a,xw (by simp [-List.getD_eq_getElem?_getD]at d;grind)];rfl)⟩,cq,tt⟩ trivial};(try simp only []);first | omega | grind};(have a:c=4:=by simp [-List.getD_eq_getElem?_getD]at a1;omega);subst a;refine xt (sq (rgs [] rfl ?_ ?_));{simp [-List.getD_eq_getElem?_getD,ay,under];omega};refine cd rfl (λn=>?_) (λn=>?_);{simp only [band,adu]at n;refine sg rfl (rX ?_);refine fin1 hT (by rfl) (aeF (acB λh=>?_));have o:=h.2.2.2.2.2.2 i (by omega);unfold Gg at o;simp [-List.getD_eq_getElem?_getD]at n;grind};simp only [band,adu]at n;refine sk (rg [] rfl ?_);refine ⟨i+1,?_,?_,?_⟩;{exact ⟨by omega,all_succ a4 (by unfold Gg;simp [-List.getD_eq_getElem?_getD]at n;grind)⟩};{refine eX cX trivial};(try simp only []);first | omega | grind};(have q:(i:Int)=s.count:=by simp [-List.getD_eq_getElem?_getD]at a0;omega);refine xt (sq (rg [] rfl ?_));refine rX ?_;refine fin1 hT (by rfl) (aeF (adx ⟨hr.1,hr.2,λk h=>hn k (by omega) h,a5,u,a3,λk hk=>?_⟩));rcases adv k i with h | h;{exact a4 k h};intro e;rw [(u k hk).2 (by omega)]at e;cases e
section
variable {P:Program} {T:Nat->TI} {N:Nat}
theorem AC.of_calls {f:FuncId} {xs:List Value} {r:Value} {a:AV} (hc:callable P f) (g:∀ (I:fO) (ρ:Pl),gG T N I ρ a r)
 (h:∀ w:World,(∀ (b o n:Nat),(T b).glb[o]? = some n->w.cell? ⟨b,o,none⟩=some (.int .u8 n))->Calls P f xs.toArray w λe w'=>e = .returned r/\w'=w):AC P T N f (xs.map .v) [] a []:=by
 refine ⟨hc,λI ρ w vs hl j hw=>?_⟩;have e:vs=xs:=by refine ae0 (by simpa using hl) λi c d=>?_;have:=j i (.v xs[i]) vs[i] (by simp [d]) (by simp [c]);exact (this.v).1
 subst e;refine (h w (λb o n hg=>hw.imm _ _ _ (hw.gl b o n hg))).mono ?_;rintro e w' ⟨rfl,rfl⟩;exact ⟨r,I,ρ,rfl,Ev.refl _ _ _,g I ρ,hw⟩
theorem oI (hT:ji P T N) {nt k j t i:Nat} {st:St} {y:AV} {a e:Int} {B:Ad} (h:st.t k=some (.always,.ptr (.s j 0) 1 0 [])) (v:st.t i=some (.always,.int a)) (hm:st.m (.s j 0)=some (.cells B)) (u:Conv st.m (λid=>dW id []) T (B.get 0) y) (he:a=e)
 (p:fC y=true:=by rfl) (q:fZ [.s j 0] y=true:=by rfl) (g:rW y=true:=by rfl) (d:Nat.beq i k=false:=by rfl) (o:B.ty=t:=by rfl) (hn:B.n=1:=by rfl) (b:B.fz=0:=by rfl):Fin T N nt 0 [.cell k t,.tmp i] (.tup [y,.int e]) [] st:=by
 obtain ⟨ty,n,get,fz⟩:=B;simp only at o hn b u;subst o hn b he;refine Fin.ent (xu.mk (P:=P) hT [] (ts:=[(k,.ptr (.s j 0) 1 0 []),(i,.int a)]) (ms:=[(.s j 0,.cells ⟨ty,1,λ_=>y,0⟩)]) trivial ⟨⟨by simp [fZ,iq,aS],_,h,ah rfl⟩,⟨rfl,_,v,ah rfl⟩,tt⟩ ⟨⟨λ_ _=>q,.inl ⟨_,hm,_,_,rfl,abd _,abq _,abq _,q0 u⟩⟩,tt⟩ rfl) ?_;have r:(aN [(k,AV.ptr (.s j 0) 1 0 []),(i,.int a)] [(.s j 0,Ob.cells ⟨ty,1,λ_=>y,0⟩)]).m (.s j 0)=some (.cells ⟨ty,1,λ_=>y,0⟩):=by simp [aN,nP,aS]
 have f:Nat.beq k k=true:=by simp
 have c:Nat.beq i i=true:=by simp
 refine aJ hT [(.s j 0,1)] (ts:=[(k,.rp ty y),(i,.int a)]) (l:=[y,.int a]) ⟨⟨_,r,abd _⟩,tt⟩ ⟨⟨rfl,.ptr (.s j 0) 1 0 [],by simp only [aN,oz,f];rfl,?_⟩,⟨rfl,_,by simp only [aN,oz,d,c];rfl,ah rfl⟩,tt⟩ trivial rfl ?_ rfl
 ·exact bM r rfl (by simp [dW,aS]) rfl (by show y.at []=y;cases y <;> rfl) p
 ·simp only [Ae,aN,oz,f,c,d,adD,adB,aea,Wq,Bj,aY,nX,g];have ht:Nat.beq ty ty=true:=by simp
  simp [Wq,ht,show rW (AV.int a)=true from rfl,nX,fV,g]
theorem yu (hT:ji P T N) {nt k j t f b t' i:Nat} {st:St} {y d:AV} {a e:Int} {B B':Ad} (h:st.t k=some (.always,.ptr (.s j 0) 1 0 [])) (h':st.t f=some (.always,.ptr (.s b 0) 1 0 [])) (h2:st.t i=some (.always,.int a)) (hm:st.m (.s j 0)=some (.cells B)) (a5:st.m (.s b 0)=some (.cells B'))
 (hy:Conv st.m (λid=>dW id []) T (B.get 0) y) (a3:Conv st.m (λid=>dW id []) T (B'.get 0) d) (he:a=e)
 (a6:fC y=true:=by rfl) (a8:fZ [.s j 0,.s b 0] y=true:=by rfl) (a7:rW y=true:=by rfl) (hno':fC d=true:=by rfl) (hok':fZ [.s j 0,.s b 0] d=true:=by rfl) (a0:rW d=true:=by rfl) (w:Nat.beq i k=false:=by rfl) (o:Nat.beq i f=false:=by rfl) (p:Nat.beq f k=false:=by rfl) (a4:Nat.beq b j=false:=by rfl)
 (a2:B.ty=t:=by rfl) (hn:B.n=1:=by rfl) (u:B.fz=0:=by rfl) (r:B'.ty=t':=by rfl) (z:B'.n=1:=by rfl) (g:B'.fz=0:=by rfl):Fin T N nt 0 [.cell k t,.cell f t',.tmp i] (.tup [y,d,.int e]) [] st:=by
 obtain ⟨ty,n,get,fz⟩:=B;obtain ⟨c,n',get',b5⟩:=B';simp only at a2 hn u hy r z g a3;subst a2 hn u he r z g;have x:Nat.beq k k=true:=by simp
 have q:Nat.beq f f=true:=by simp
 have v:Nat.beq i i=true:=by simp
 have a9:Id.beq (.s j 0) (.s j 0)=true:=aS _;have b0:Id.beq (.s b 0) (.s b 0)=true:=aS _
 have a1:Id.beq (.s b 0) (.s j 0)=false:=by simp [Id.beq,a4]
 refine Fin.ent (xu.mk (P:=P) hT [] (ts:=[(k,.ptr (.s j 0) 1 0 []),(f,.ptr (.s b 0) 1 0 []),(i,.int a)]) (ms:=[(.s j 0,.cells ⟨ty,1,λ_=>y,0⟩),(.s b 0,.cells ⟨c,1,λ_=>d,0⟩)]) trivial ⟨⟨by simp [fZ,iq,aS],_,h,ah rfl⟩,⟨by simp [fZ,iq,aS],_,h',ah rfl⟩,⟨rfl,_,h2,ah rfl⟩,tt⟩
  ⟨⟨λ_ _=>a8,.inl ⟨_,hm,_,_,rfl,abd _,abq _,abq _,q0 hy⟩⟩,⟨λ_ _=>hok',.inl ⟨_,a5,_,_,rfl,abd _,abq _,abq _,q0 a3⟩⟩,tt⟩ rfl) ?_
 have h1:(aN [(k,AV.ptr (.s j 0) 1 0 []),(f,.ptr (.s b 0) 1 0 []),(i,.int a)] [(.s j 0,Ob.cells ⟨ty,1,λ_=>y,0⟩),(.s b 0,Ob.cells ⟨c,1,λ_=>d,0⟩)]).m (.s j 0)=some (.cells ⟨ty,1,λ_=>y,0⟩):=by simp only [aN,nP,a9];rfl
 have h3:(aN [(k,AV.ptr (.s j 0) 1 0 []),(f,.ptr (.s b 0) 1 0 []),(i,.int a)] [(.s j 0,Ob.cells ⟨ty,1,λ_=>y,0⟩),(.s b 0,Ob.cells ⟨c,1,λ_=>d,0⟩)]).m (.s b 0)=some (.cells ⟨c,1,λ_=>d,0⟩):=by simp only [aN,nP,b0,a1];rfl
 refine aJ hT [(.s j 0,1),(.s b 0,1)] (ts:=[(k,.rp ty y),(f,.rp c d),(i,.int a)]) (l:=[y,d,.int a]) ⟨⟨_,h1,abd _⟩,⟨_,h3,abd _⟩,tt⟩
  ⟨⟨rfl,.ptr (.s j 0) 1 0 [],by simp only [aN,oz,x];rfl,?_⟩,⟨rfl,.ptr (.s b 0) 1 0 [],by simp only [aN,oz,p,q];rfl,?_⟩,⟨rfl,_,by simp only [aN,oz,w,o,v];rfl,ah rfl⟩,tt⟩ trivial rfl ?_ rfl
 ·exact bM h1 rfl (by simp [dW,aS]) rfl (by show y.at []=y;cases y <;> rfl) a6
 ·exact bM h3 rfl (by simp [dW,a1,aS]) rfl (by show d.at []=d;cases d <;> rfl) hno'
 ·have ht:Nat.beq ty ty=true:=by simp
  have b1:Nat.beq c c=true:=by simp
  simp only [Ae,aN,oz,x,q,p,v,w,o,adD,adB,aea];simp [Wq,ht,b1,show rW (AV.int a)=true from rfl,nX,fV,a7,a0]
end
end Go.Ab
