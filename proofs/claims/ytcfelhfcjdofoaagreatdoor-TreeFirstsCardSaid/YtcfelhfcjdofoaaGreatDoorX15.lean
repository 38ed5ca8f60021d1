/- Part 16 of a proof of a statement about the given program: an abstract machine over the model, proved sound, and contracts of the functions that the statement reaches; the last part proves the statement, for every input, with no condition. -/
import Derived.Test.YtcfelhfcjdofoaaGreatDoorX14
import Derived.Test.YtcfelhfcjdofoaaGreatDoorX13
set_option autoImplicit false
set_option linter.unusedSimpArgs false
set_option linter.unusedVariables false
set_option maxHeartbeats 4000000
set_option maxRecDepth 20000
namespace Go.Ab
open Go.Proofs
def ints (f:Bool) (l:List Int):AV := .row 3 f l.length (λi => .int (l.getD i 0))
def abU (a b:List Int) (i:Nat):Prop := ∀ j,j<i->a.getD j 0=b.getD j 0
theorem MG (f g:Bool) (a b:List Int):AC Tryz.prog T aJ 32 [ints f a,ints g b] [] (.bool (decide (a=b))) []:=by
 refine aX Tryz.func32 ?_;refine WP.rowlen 0 rfl (λn=>?_);refine WP.seq (WP.reg hT hE [] rfl ?_ ?_)
 ·trivial
 dsimp only [sN];refine WP.seq (WP.seq ?_);refine WP.reg hT hE [] rfl ?_ ?_
 ·trivial
 dsimp only [sN];refine WP.cond rfl (λh=>?_) (λh=>?_)
 ·refine WP.seq (WP.reg hT hE [] rfl ?_ ?_);{trivial};refine WP.ret ?_;refine ⟨[(4,.bool (decide (a=b)))],tV.mk hT [] trivial ⟨⟨rfl,_,rfl,ah ?_⟩,tt⟩ trivial rfl,_,rfl,trivial,rfl⟩;(have:a≠b:=by rintro rfl;simp at h);simp [this]
 refine WP.skip ?_;dsimp only [sN];(have hlen:a.length=b.length:=by simp at h;omega);refine WP.seq (WP.seq ?_);refine WP.reg hT hE [] rfl ?_ ?_;{trivial};dsimp only [sN];refine WP.block ?_;refine WP.loop (α:=Nat) (λi=>aN [(0,ints f a),(1,ints g b),(12,.int a.length),(13,.int i)] []) (λi=>i<=a.length/\abU a b i) (λi=>a.length - i) ?_ ?_;{refine ⟨0,⟨abr _,λj m=>by omega⟩,tV.mk hT [] trivial ?_ trivial rfl⟩;exact ⟨⟨rfl,_,rfl,ah rfl⟩,⟨rfl,_,rfl,ah rfl⟩,⟨rfl,_,rfl,ah rfl⟩,⟨rfl,_,rfl,ah rfl⟩,tt⟩};rintro i ⟨hi,c⟩;refine WP.seq (WP.reg hT hE [] rfl ?_ ?_);{trivial};dsimp only [sN];refine WP.seq (WP.cond rfl (λh=>?_) (λh=>?_));{refine WP.skip ?_;dsimp only [sN];(have d:i<a.length:=by simpa using h);refine WP.seq (WP.block ?_);refine WP.seq (WP.reg hT hE [] rfl ?_ ?_);{trivial};dsimp only [sN];refine WP.seq (WP.drw hT hE hM [] rfl ?_ ?_);{simp only [ay,under];omega};dsimp only [sN];refine WP.cond rfl (λh=>?_) (λh=>?_);{refine WP.seq (WP.reg hT hE [] rfl ?_ ?_);{trivial};refine WP.ret ?_;refine ⟨[(4,.bool (decide (a=b)))],tV.mk hT [] trivial ⟨⟨rfl,_,rfl,ah ?_⟩,tt⟩ trivial rfl,_,rfl,trivial,rfl⟩;(have:a≠b:=by rintro rfl;simp at h);simp [this]};refine WP.skip ?_;dsimp only [UL,sN];refine WP.reg hT hE [] rfl ?_ ?_;{trivial};dsimp only [sN];refine ⟨i+1,⟨d,λj m=>?_⟩,tV.mk hT [] trivial ?_ trivial rfl,by omega⟩;{rcases acf j i with e | e;{exact c j e};(have:j=i:=by omega);subst this;simpa using h};refine ⟨⟨rfl,_,rfl,ah rfl⟩,⟨rfl,_,rfl,ah rfl⟩,⟨rfl,_,rfl,ah rfl⟩,⟨rfl,_,rfl,ah ?_⟩,tt⟩;rw [bK (by omega) (by omega)];simp};refine WP.exit ?_;dsimp only [sN,UL];(have d:i=a.length:=by simp at h;omega);refine WP.seq (WP.reg hT hE [] rfl ?_ ?_);{trivial};refine WP.ret ?_;refine ⟨[(4,.bool (decide (a=b)))],tV.mk hT [] trivial ⟨⟨rfl,_,rfl,ah ?_⟩,tt⟩ trivial rfl,_,rfl,trivial,rfl⟩;(have:a=b:=by refine List.ext_getElem hlen (λj k l=>?_);have:=c j (by omega);simpa [k,l]using this);simp [this]
theorem bC {P:Program} {T:Nat->TI} {N nt:Nat} (hT:iZ P T N) {t:Nat->Option (D×AV)} {m:Id->Option Ob} {k:Nat} {b r:Int} (h:t k=some (.always,.v (.int .i64 b))) (e:b=r):Fin T N nt 0 [.tmp k] (.int r) [] ⟨t,m⟩:=by
 subst e;refine ⟨[(k,.int b)],tV.mk hT [] trivial ⟨⟨rfl,_,h,ah rfl⟩,tt⟩ trivial rfl,([.int b],none),?_,trivial,rfl⟩;simp [yM,aN,lT,oW]
theorem fM (a b:Bool):(bif a then true else b)=(a||b):=by cases a <;> rfl
theorem band (a b:Bool):(bif a then b else false)=(a&&b):=by cases a <;> rfl
structure aa0 where
 atomic:Bool
 init:Int
structure iF where
 op:Int
 a:Int
 b:Int
 c:Int
 n:Int
structure zf where
 send:Bool
 chan:Int
 reg:Int
 to:Int
structure tN where
 cases:List zf
 els:Int
structure fV where
 params:Int
 regs:Int
 code:List iF
 sels:List tN
structure aj where
 vars:List aa0
 locks:Int
 chans:List Int
 funcs:List fV
def Lc (x:aa0):AV:=bI 116 [.bool x.atomic,.int x.init]
def aT (x:iF):AV:=bI 120 [.int x.op,.int x.a,.int x.b,.int x.c,.int x.n]
def qg (x:zf):AV:=bI 215 [.bool x.send,.int x.chan,.int x.reg,.int x.to]
def rowP {α:Type} (t:Nat) (enc:α->AV) (d:α) (l:List α):AV := .row t false l.length (λi=>enc (l.getD i d))
def EG:zf:=⟨false,0,0,0⟩
def jG (x:tN):AV:=bI 103 [rowP 215 qg EG x.cases,.int x.els]
def nM:iF:=⟨0,0,0,0,0⟩
def wP:tN:=⟨[],0⟩
def jv (x:fV):AV:=bI 100 [.int x.params,.int x.regs,rowP 120 aT nM x.code,rowP 103 jG wP x.sels]
def LK:aa0:=⟨false,0⟩
def lG:fV:=⟨0,0,[],[]⟩
def ak (x:aj):AV:=bI 26 [rowP 116 Lc LK x.vars,.int x.locks,ints false x.chans,rowP 100 jv lG x.funcs]
def yZ (p:aj) (f:fV):AV:=bI 257 [ak p,jv f]
def dF (n a:Int):Bool:=decide (n>=0)&&decide (n<a)
theorem Dh (n m:Int):AC Tryz.prog T aJ 260 [.int n,.int m] [] (.bool (dF n m)) []:=by
 refine aX Tryz.func260 ?_;refine sg rfl (sg rfl ?_);refine rX ?_;exact fin1 hT (by rfl) (by rw [band];rfl)
theorem iP (n m:Int):AC Tryz.prog T aJ 150 [.int n,.int m] [] (.bool (dF n m)) []:=by
 refine aX Tryz.func150 ?_;refine sg rfl (sg rfl ?_);refine rX ?_;exact fin1 hT (by rfl) (by rw [band];rfl)
def dK (n a:Int):Int:=if dF n a then 0 else 36
def dY (f:fV) (n:Int):Int:=if dF n f.regs then 0 else 35
def dV (f:fV) (n:Int):Int:=if dF n f.code.length then 0 else 38
theorem qF (n m:Int):AC Tryz.prog T aJ 212 [.int n,.int m] [] (.int (dK n m)) []:=by
 refine aX Tryz.func212 ?_;refine sg rfl (sq (sq (rgs [CG.pure (.bool (dF n m))] rfl ?_ ?_)))
 ·exact Dh n m
 refine cd rfl (λa=>?_) (λa=>?_)
 ·(have h:dF n m=false:=by simpa using a);exact sg rfl (WP.ret (bC hT (by rfl) (by simp [dK,h])))
 (have h:dF n m=true:=by simpa using a);refine sk (sq (rg [] rfl ?_));exact WP.ret (bC hT (by rfl) (by simp [dK,h]))
theorem uw (p:aj) (f:fV) (n:Int):AC Tryz.prog T aJ 213 [.rp 257 (yZ p f),.int n] [] (.int (dY f n)) []:=by
 refine aX Tryz.func213 ?_;refine sg rfl (sq (sq (rgs [CG.pure (.bool (dF n f.regs))] rfl ?_ ?_)))
 ·exact Dh n f.regs
 refine cd rfl (λa=>?_) (λa=>?_)
 ·(have h:dF n f.regs=false:=by simpa using a);exact sg rfl (WP.ret (bC hT (by rfl) (by simp [dY,h])))
 (have h:dF n f.regs=true:=by simpa using a);refine sk (sq (rg [] rfl ?_));exact WP.ret (bC hT (by rfl) (by simp [dY,h]))
theorem zk (p:aj) (f:fV) (n:Int):AC Tryz.prog T aJ 214 [.rp 257 (yZ p f),.int n] [] (.int (dV f n)) []:=by
 refine aX Tryz.func214 ?_;refine sg rfl (sq (sq (rgs [CG.pure (.bool (dF n f.code.length))] rfl ?_ ?_)))
 ·exact Dh n f.code.length
 refine cd rfl (λa=>?_) (λa=>?_)
 ·(have h:dF n f.code.length=false:=by simpa using a);exact sg rfl (WP.ret (bC hT (by rfl) (by simp [dV,h])))
 (have h:dF n f.code.length=true:=by simpa using a);refine sk (sq (rg [] rfl ?_));exact WP.ret (bC hT (by rfl) (by simp [dV,h]))
def kE (f:fV) (n k:Int):Int:=if (k==0&&n != 0)||(decide (k>0)&&(decide (n<0)||decide (n>IntKind.i64.wrap (f.regs - k))))then 35 else 0
def dA (p:aj) (n:Int):Int:=if dF n p.vars.length then (if (p.vars.getD n.toNat LK).atomic then 0 else 37)else 36
def aS (p:aj) (f:fV) (c n:Int) (x:iF):Int :=
 if c=111 then (if n = -1 then 0 else dY f n)else if c=114 then dY f n else if c=119 then dY f n else
 if c=118 then dK n p.vars.length else if c=97 then dA p n else if c=108 then dK n p.locks else
 if c=99 then dK n p.chans.length else if c=115 then dK n f.sels.length else if c=102 then dK n p.funcs.length else
 if c=116 then dV f n else if c=112 then kE f n (p.funcs.getD x.b.toNat lG).params else 0
theorem qP {n m:Int} (h:dK n m=0):0<=n/\n<m:=by
 unfold dK at h;split at h
 ·rename_i hw;simpa [dF]using hw
 cases h
theorem PX (p:aj) (f:fV) (c n:Int) (x:iF) (hx:c=112->0<=x.b/\x.b<p.funcs.length):AC Tryz.prog T aJ 217 [.rp 257 (yZ p f),.v (.int .u8 c),.int n,aT x] [] (.int (aS p f c n x)) []:=by
 refine aX Tryz.func217 ?_;refine sg rfl (sq (sq (rg [] rfl ?_)));refine bk (sq (rg [] rfl ?_));refine cd rfl (λr=>?_) (λr=>?_)
 ·refine sq (sq (rg [] rfl ?_));refine cd rfl (λs=>?_) (λs=>?_);{refine sg rfl (rX ?_);refine bC hT (by rfl) ?_;first | (simp_all [aS];done) | (simp_all [aS,dA,dK];done) | (simp_all [aS,dA,dK,kE,fM,band];done)};refine sk (sq (rgs [CG.pure (.int (dY f n))] rfl ?_ ?_));{exact uw p f n};refine rX ?_;refine bC hT (by rfl) ?_;first | (simp_all [aS];done) | (simp_all [aS,dA,dK];done) | (simp_all [aS,dA,dK,kE,fM,band];done)
 refine sq (sq (rg [] rfl ?_));refine cd rfl (λq=>?_) (λq=>?_);{refine sk (cd rfl (λq=>?_) (λq=>?_));{refine sq (rgs [CG.pure (.int (dY f n))] rfl ?_ ?_);{exact uw p f n};refine rX ?_;refine bC hT (by rfl) ?_;first | (simp_all [aS];done) | (simp_all [aS,dA,dK];done) | (simp_all [aS,dA,dK,kE,fM,band];done)};simp_all};refine rg [] rfl (cd rfl (λt=>?_) (λt=>?_));{refine sq (rgs [CG.pure (.int (dY f n))] rfl ?_ ?_);{exact uw p f n};refine rX ?_;refine bC hT (by rfl) ?_;first | (simp_all [aS];done) | (simp_all [aS,dA,dK];done) | (simp_all [aS,dA,dK,kE,fM,band];done)};refine sg rfl (cd rfl (λu=>?_) (λu=>?_));{refine sq (sq (rgs [CG.pure (.int (dK n p.vars.length))] rfl ?_ ?_));{exact qF n p.vars.length};refine sg rfl (cd rfl (λe=>?_) (λe=>?_));{refine sg rfl (rX ?_);refine bC hT (by rfl) ?_;first | (simp_all [aS];done) | (simp_all [aS,dA,dK];done) | (simp_all [aS,dA,dK,kE,fM,band];done)};refine sk (sq (rg [] rfl ?_));refine rX ?_;refine bC hT (by rfl) ?_;first | (simp_all [aS];done) | (simp_all [aS,dA,dK];done) | (simp_all [aS,dA,dK,kE,fM,band];done)};refine sg rfl (cd rfl (λg=>?_) (λg=>?_));{refine sq (sq (rgs [CG.pure (.int (dK n p.vars.length))] rfl ?_ ?_));{exact qF n p.vars.length};refine sg rfl (cd rfl (λa=>?_) (λa=>?_));{refine sg rfl (rX ?_);refine bC hT (by rfl) ?_;first | (simp_all [aS];done) | (simp_all [aS,dA,dK];done) | (simp_all [aS,dA,dK,kE,fM,band];done)};have w:=qP (show dK n p.vars.length=0 by simpa using a);refine sk (sq (rgs [] rfl ?_ ?_));{simp [ay,under];omega};refine cd rfl (λh=>?_) (λh=>?_);{refine sg rfl (rX ?_);refine bC hT (by rfl) ?_;first | (simp_all [aS];done) | (simp_all [aS,dA,dK];done) | (simp_all [aS,dA,dK,kE,fM,band];done)};refine sk (sq (rg [] rfl ?_));refine rX ?_;refine bC hT (by rfl) ?_;first | (simp_all [aS];done) | (simp_all [aS,dA,dK];done) | (simp_all [aS,dA,dK,kE,fM,band];done)};refine sg rfl (cd rfl (λi=>?_) (λi=>?_));{refine sq (rgs [CG.pure (.int (dK n p.locks))] rfl ?_ ?_);{exact qF n p.locks};refine rX ?_;refine bC hT (by rfl) ?_;first | (simp_all [aS];done) | (simp_all [aS,dA,dK];done) | (simp_all [aS,dA,dK,kE,fM,band];done)};refine sg rfl (cd rfl (λj=>?_) (λj=>?_));{refine sq (rgs [CG.pure (.int (dK n p.chans.length))] rfl ?_ ?_);{exact qF n p.chans.length};refine rX ?_;refine bC hT (by rfl) ?_;first | (simp_all [aS];done) | (simp_all [aS,dA,dK];done) | (simp_all [aS,dA,dK,kE,fM,band];done)};refine sg rfl (cd rfl (λk=>?_) (λk=>?_));{refine sq (rgs [CG.pure (.int (dK n f.sels.length))] rfl ?_ ?_);{exact qF n f.sels.length};refine rX ?_;refine bC hT (by rfl) ?_;first | (simp_all [aS];done) | (simp_all [aS,dA,dK];done) | (simp_all [aS,dA,dK,kE,fM,band];done)};refine sg rfl (cd rfl (λl=>?_) (λl=>?_));{refine sq (rgs [CG.pure (.int (dK n p.funcs.length))] rfl ?_ ?_);{exact qF n p.funcs.length};refine rX ?_;refine bC hT (by rfl) ?_;first | (simp_all [aS];done) | (simp_all [aS,dA,dK];done) | (simp_all [aS,dA,dK,kE,fM,band];done)};refine sg rfl (cd rfl (λm=>?_) (λm=>?_));{refine sq (rgs [CG.pure (.int (dV f n))] rfl ?_ ?_);{exact zk p f n};refine rX ?_;refine bC hT (by rfl) ?_;first | (simp_all [aS];done) | (simp_all [aS,dA,dK];done) | (simp_all [aS,dA,dK,kE,fM,band];done)};refine sg rfl (cd rfl (λd=>?_) (λd=>?_));{have hb:=hx (by simpa using d);refine sq (drs [] rfl ?_ ?_);{simp [ay,under];omega};refine sg rfl (cd rfl (λo=>?_) (λo=>?_));{refine sg rfl (rX ?_);refine bC hT (by rfl) ?_;first | (simp_all [aS];done) | (simp_all [aS,dA,dK];done) | (simp_all [aS,dA,dK,kE,fM,band];done)};refine sk (sq (rg [] rfl ?_));refine rX ?_;refine bC hT (by rfl) ?_;first | (simp_all [aS];done) | (simp_all [aS,dA,dK];done) | (simp_all [aS,dA,dK,kE,fM,band];done)};refine sk (sq (rg [] rfl ?_));refine rX ?_;refine bC hT (by rfl) ?_;first | (simp_all [aS];done) | (simp_all [aS,dA,dK];done) | (simp_all [aS,dA,dK,kE,fM,band];done)
theorem MP (p:aj) (f:fV) (c n:Int) (x:iF) (hx:c=112->0<=x.b/\x.b<p.funcs.length):AC Tryz.prog T aJ 153 [ak p,jv f,.v (.int .u8 c),.int n,aT x] [] (.int (aS p f c n x)) []:=by
 refine aX Tryz.func153 ?_;refine sg rfl (sq (sq (rg [] rfl ?_)));refine bk (sq (sq (rg [] rfl ?_)));refine cd rfl (λk=>?_) (λk=>?_)
 ·refine sk (cd rfl (λk=>?_) (λk=>?_));{refine sq (rgs [CG.pure (.bool (dF n f.regs))] rfl ?_ ?_);{simp [ay,under,CG.pure];exact iP n f.regs};refine cd rfl (λz=>?_) (λz=>?_);{refine sg rfl (rX ?_);refine bC hT (by rfl) ?_;first | (simp_all [aS,dY,dV];done) | (simp_all [aS,dA,dK,dY,dV];done) | (simp_all [aS,dA,dK,kE,fM,band,dY,dV];done)};refine sk (sq (rg [] rfl ?_));refine rX ?_;refine bC hT (by rfl) ?_;first | (simp_all [aS,dY,dV];done) | (simp_all [aS,dA,dK,dY,dV];done) | (simp_all [aS,dA,dK,kE,fM,band,dY,dV];done)};simp_all
 refine rg [] rfl (cd rfl (λh3=>?_) (λh3=>?_));{refine sq (rgs [CG.pure (.bool (dF n f.regs))] rfl ?_ ?_);{simp [ay,under,CG.pure];exact iP n f.regs};refine cd rfl (λz=>?_) (λz=>?_);{refine sg rfl (rX ?_);refine bC hT (by rfl) ?_;first | (simp_all [aS,dY,dV];done) | (simp_all [aS,dA,dK,dY,dV];done) | (simp_all [aS,dA,dK,kE,fM,band,dY,dV];done)};refine sk (sq (rg [] rfl ?_));refine rX ?_;refine bC hT (by rfl) ?_;first | (simp_all [aS,dY,dV];done) | (simp_all [aS,dA,dK,dY,dV];done) | (simp_all [aS,dA,dK,kE,fM,band,dY,dV];done)};refine sg rfl (cd rfl (λh6=>?_) (λh6=>?_));{refine sq (rgs [CG.pure (.bool (dF n f.regs))] rfl ?_ ?_);{have hw:=iP n f.regs;simp [ay,under,CG.pure];exact λ_=>hw};refine cd rfl (λh7=>?_) (λh7=>?_);{refine sg rfl (rX ?_);refine bC hT (by rfl) ?_;first | (simp_all [aS,dY,dV];done) | (simp_all [aS,dA,dK,dY,dV];done) | (simp_all [aS,dA,dK,kE,fM,band,dY,dV];done)};refine sk (sq (rg [] rfl ?_));refine rX ?_;refine bC hT (by rfl) ?_;first | (simp_all [aS,dY,dV];done) | (simp_all [aS,dA,dK,dY,dV];done) | (simp_all [aS,dA,dK,kE,fM,band,dY,dV];done)};refine sg rfl (cd rfl (λh9=>?_) (λh9=>?_));{have hb:=hx (by simpa using h9);refine sq (rgs [] rfl ?_ ?_);{simp [ay,under];omega};refine sg rfl (cd rfl (λd=>?_) (λd=>?_));{refine sg rfl (rX ?_);refine bC hT (by rfl) ?_;first | (simp_all [aS,dY,dV];done) | (simp_all [aS,dA,dK,dY,dV];done) | (simp_all [aS,dA,dK,kE,fM,band,dY,dV];done)};refine sk (sq (rg [] rfl ?_));refine rX ?_;refine bC hT (by rfl) ?_;first | (simp_all [aS,dY,dV];done) | (simp_all [aS,dA,dK,dY,dV];done) | (simp_all [aS,dA,dK,kE,fM,band,dY,dV];done)};refine sg rfl (cd rfl (λg=>?_) (λg=>?_));{refine sq (rgs [CG.pure (.bool (dF n p.vars.length))] rfl ?_ ?_);{have hw:=iP n p.vars.length;simp [ay,under,CG.pure];exact hw};refine cd rfl (λh=>?_) (λh=>?_);{refine sg rfl (rX ?_);refine bC hT (by rfl) ?_;first | (simp_all [aS,dY,dV];done) | (simp_all [aS,dA,dK,dY,dV];done) | (simp_all [aS,dA,dK,kE,fM,band,dY,dV];done)};refine sk (sq (rg [] rfl ?_));refine rX ?_;refine bC hT (by rfl) ?_;first | (simp_all [aS,dY,dV];done) | (simp_all [aS,dA,dK,dY,dV];done) | (simp_all [aS,dA,dK,kE,fM,band,dY,dV];done)};refine sg rfl (cd rfl (λi=>?_) (λi=>?_));{refine sq (sq (rgs [CG.pure (.bool (dF n p.vars.length))] rfl ?_ ?_));{have hw:=iP n p.vars.length;simp [ay,under,CG.pure];exact hw};refine cd rfl (λa=>?_) (λa=>?_);{refine sg rfl (rX ?_);refine bC hT (by rfl) ?_;first | (simp_all [aS,dY,dV];done) | (simp_all [aS,dA,dK,dY,dV];done) | (simp_all [aS,dA,dK,kE,fM,band,dY,dV];done)};(have hv:0<=n/\n<p.vars.length:=by(have e:dF n p.vars.length=true:=by simpa using a);simpa [dF]using e);refine sk (sq (rgs [] rfl ?_ ?_));{simp [ay,under];omega};refine cd rfl (λj=>?_) (λj=>?_);{refine sg rfl (rX ?_);refine bC hT (by rfl) ?_;first | (simp_all [aS,dY,dV];done) | (simp_all [aS,dA,dK,dY,dV];done) | (simp_all [aS,dA,dK,kE,fM,band,dY,dV];done)};refine sk (sq (rg [] rfl ?_));refine rX ?_;refine bC hT (by rfl) ?_;first | (simp_all [aS,dY,dV];done) | (simp_all [aS,dA,dK,dY,dV];done) | (simp_all [aS,dA,dK,kE,fM,band,dY,dV];done)};refine sg rfl (cd rfl (λl=>?_) (λl=>?_));{refine sq (rgs [CG.pure (.bool (dF n p.locks))] rfl ?_ ?_);{have hw:=iP n p.locks;simp [ay,under,CG.pure];exact hw};refine cd rfl (λm=>?_) (λm=>?_);{refine sg rfl (rX ?_);refine bC hT (by rfl) ?_;first | (simp_all [aS,dY,dV];done) | (simp_all [aS,dA,dK,dY,dV];done) | (simp_all [aS,dA,dK,kE,fM,band,dY,dV];done)};refine sk (sq (rg [] rfl ?_));refine rX ?_;refine bC hT (by rfl) ?_;first | (simp_all [aS,dY,dV];done) | (simp_all [aS,dA,dK,dY,dV];done) | (simp_all [aS,dA,dK,kE,fM,band,dY,dV];done)};refine sg rfl (cd rfl (λo=>?_) (λo=>?_));{refine sq (rgs [CG.pure (.bool (dF n p.chans.length))] rfl ?_ ?_);{have hw:=iP n p.chans.length;simp [ay,under,CG.pure];exact hw};refine cd rfl (λq=>?_) (λq=>?_);{refine sg rfl (rX ?_);refine bC hT (by rfl) ?_;first | (simp_all [aS,dY,dV];done) | (simp_all [aS,dA,dK,dY,dV];done) | (simp_all [aS,dA,dK,kE,fM,band,dY,dV];done)};refine sk (sq (rg [] rfl ?_));refine rX ?_;refine bC hT (by rfl) ?_;first | (simp_all [aS,dY,dV];done) | (simp_all [aS,dA,dK,dY,dV];done) | (simp_all [aS,dA,dK,kE,fM,band,dY,dV];done)};refine sg rfl (cd rfl (λr=>?_) (λr=>?_));{refine sq (rgs [CG.pure (.bool (dF n f.sels.length))] rfl ?_ ?_);{have hw:=iP n f.sels.length;simp [ay,under,CG.pure];exact hw};refine cd rfl (λs=>?_) (λs=>?_);{refine sg rfl (rX ?_);refine bC hT (by rfl) ?_;first | (simp_all [aS,dY,dV];done) | (simp_all [aS,dA,dK,dY,dV];done) | (simp_all [aS,dA,dK,kE,fM,band,dY,dV];done)};refine sk (sq (rg [] rfl ?_));refine rX ?_;refine bC hT (by rfl) ?_;first | (simp_all [aS,dY,dV];done) | (simp_all [aS,dA,dK,dY,dV];done) | (simp_all [aS,dA,dK,kE,fM,band,dY,dV];done)};refine sg rfl (cd rfl (λt=>?_) (λt=>?_));{refine sq (rgs [CG.pure (.bool (dF n p.funcs.length))] rfl ?_ ?_);{have hw:=iP n p.funcs.length;simp [ay,under,CG.pure];exact hw};refine cd rfl (λu=>?_) (λu=>?_);{refine sg rfl (rX ?_);refine bC hT (by rfl) ?_;first | (simp_all [aS,dY,dV];done) | (simp_all [aS,dA,dK,dY,dV];done) | (simp_all [aS,dA,dK,kE,fM,band,dY,dV];done)};refine sk (sq (rg [] rfl ?_));refine rX ?_;refine bC hT (by rfl) ?_;first | (simp_all [aS,dY,dV];done) | (simp_all [aS,dA,dK,dY,dV];done) | (simp_all [aS,dA,dK,kE,fM,band,dY,dV];done)};refine sg rfl (cd rfl (λw=>?_) (λw=>?_));{refine sq (rgs [CG.pure (.bool (dF n f.code.length))] rfl ?_ ?_);{have hw:=iP n f.code.length;simp [ay,under,CG.pure];exact hw};refine cd rfl (λy=>?_) (λy=>?_);{refine sg rfl (rX ?_);refine bC hT (by rfl) ?_;first | (simp_all [aS,dY,dV];done) | (simp_all [aS,dA,dK,dY,dV];done) | (simp_all [aS,dA,dK,kE,fM,band,dY,dV];done)};refine sk (sq (rg [] rfl ?_));refine rX ?_;refine bC hT (by rfl) ?_;first | (simp_all [aS,dY,dV];done) | (simp_all [aS,dA,dK,dY,dV];done) | (simp_all [aS,dA,dK,kE,fM,band,dY,dV];done)};refine sk (sq (rg [] rfl ?_));refine rX ?_;refine bC hT (by rfl) ?_;first | (simp_all [aS,dY,dV];done) | (simp_all [aS,dA,dK,dY,dV];done) | (simp_all [aS,dA,dK,kE,fM,band,dY,dV];done)
theorem jI {P:Program} {T:Nat->TI} {N nt:Nat} (hT:iZ P T N) {t:Nat->Option (D×AV)} {m:Id->Option Ob} {k:Nat} {b r:ByteArray} (h:t k=some (.always,.v (.string b))) (e:b=r):Fin T N nt 0 [.tmp k] (.v (.string r)) [] ⟨t,m⟩:=by
 subst e;refine ⟨[(k,.v (.string b))],tV.mk hT [] trivial ⟨⟨rfl,_,h,ah rfl⟩,tt⟩ trivial rfl,([.v (.string b)],none),?_,trivial,rfl⟩;simp [yM,aN,lT,oW]
def jR (op:Int):List UInt8 :=
 if 1<=op/\op<=15 then [114,114,45,45]else if 16<=op/\op<=36 then [114,114,114,45]else
 if op=40\/op=44\/op=65 then [114,45,45,110]else if op=41 then [114,114,45,45]else if op=42 then [116,45,45,45]else
 if op=43 then [114,116,45,45]else if op=45\/op=64 then [45,45,45,45]else if op=50 then [114,118,45,45]else
 if op=51 then [118,114,45,45]else if op=52 then [111,97,114,45]else if op=53 then [114,97,114,119]else
 if op=54 then [97,114,45,45]else if op=55\/op=56 then [108,45,45,45]else if op=57 then [114,108,45,45]else
 if op=58 then [99,114,45,45]else if op=59 then [111,99,111,45]else if op=60 then [99,45,45,45]else
 if op=61 then [115,45,45,45]else if op=62 then [111,102,112,45]else if op=63 then [114,45,45,45]else []
def oh (op:Int):ByteArray:=⟨(jR op).toArray⟩
theorem bT {op:Int} {l:List UInt8} (h:jR op=l):(⟨l.toArray⟩:ByteArray)=oh op:=by rw [oh,h]
theorem fm {Q:Prop} (h:Q:=by
 simp only [band,aa3,adN,abK,abW,ab9,abL]at *;unfold jR;all_goals (repeat (first | rfl | (rw [Y0 (by omega)]) | (rw [aaI (by omega)])))):Q:=h
theorem Zl (op:Int):AC Tryz.prog T aJ 215 [.int op] [] (.v (.string (oh op))) []:=by
 refine aX Tryz.func215 ?_;refine sg rfl (sq (bk (sq (rg [] rfl ?_))));refine cd rfl (λw=>?_) (λw=>?_)
 ·exact sg rfl (WP.ret (jI hT (by rfl) (bT fm)))
 refine sg rfl (cd rfl (λx=>?_) (λx=>?_));{exact sg rfl (WP.ret (jI hT (by rfl) (bT fm)))};refine sk (sq (sq (rg [] rfl ?_)));refine bk (sq (sq (rg [] rfl ?_)));refine cd rfl (λt=>?_) (λt=>?_);{refine sk (cd rfl (λt=>?_) (λt=>?_));{exact sg rfl (WP.ret (jI hT (by rfl) (bT fm)))};simp_all};refine sg rfl (cd rfl (λu=>?_) (λu=>?_));{refine sk (cd rfl (λu=>?_) (λu=>?_));{exact sg rfl (WP.ret (jI hT (by rfl) (bT fm)))};simp_all};refine rg [] rfl (cd rfl (λy=>?_) (λy=>?_));{exact sg rfl (WP.ret (jI hT (by rfl) (bT fm)))};refine sg rfl (cd rfl (λc=>?_) (λc=>?_));{exact sg rfl (WP.ret (jI hT (by rfl) (bT fm)))};refine sg rfl (cd rfl (λd=>?_) (λd=>?_));{exact sg rfl (WP.ret (jI hT (by rfl) (bT fm)))};refine sg rfl (cd rfl (λe=>?_) (λe=>?_));{exact sg rfl (WP.ret (jI hT (by rfl) (bT fm)))};refine sq (sq (rg [] rfl ?_));refine cd rfl (λa=>?_) (λa=>?_);{refine sk (cd rfl (λa=>?_) (λa=>?_));{exact sg rfl (WP.ret (jI hT (by rfl) (bT fm)))};simp_all};refine rg [] rfl (cd rfl (λf=>?_) (λf=>?_));{exact sg rfl (WP.ret (jI hT (by rfl) (bT fm)))};refine sg rfl (cd rfl (λg=>?_) (λg=>?_));{exact sg rfl (WP.ret (jI hT (by rfl) (bT fm)))};refine sg rfl (cd rfl (λh=>?_) (λh=>?_));{exact sg rfl (WP.ret (jI hT (by rfl) (bT fm)))};refine sg rfl (cd rfl (λi=>?_) (λi=>?_));{exact sg rfl (WP.ret (jI hT (by rfl) (bT fm)))};refine sg rfl (cd rfl (λj=>?_) (λj=>?_));{exact sg rfl (WP.ret (jI hT (by rfl) (bT fm)))};refine sg rfl (cd rfl (λk=>?_) (λk=>?_));{exact sg rfl (WP.ret (jI hT (by rfl) (bT fm)))};refine sq (sq (rg [] rfl ?_));refine cd rfl (λb=>?_) (λb=>?_);{refine sk (cd rfl (λb=>?_) (λb=>?_));{exact sg rfl (WP.ret (jI hT (by rfl) (bT fm)))};simp_all};refine rg [] rfl (cd rfl (λl=>?_) (λl=>?_));{exact sg rfl (WP.ret (jI hT (by rfl) (bT fm)))};refine sg rfl (cd rfl (λm=>?_) (λm=>?_));{exact sg rfl (WP.ret (jI hT (by rfl) (bT fm)))};refine sg rfl (cd rfl (λn=>?_) (λn=>?_));{exact sg rfl (WP.ret (jI hT (by rfl) (bT fm)))};refine sg rfl (cd rfl (λo=>?_) (λo=>?_));{exact sg rfl (WP.ret (jI hT (by rfl) (bT fm)))};refine sg rfl (cd rfl (λp=>?_) (λp=>?_));{exact sg rfl (WP.ret (jI hT (by rfl) (bT fm)))};refine sg rfl (cd rfl (λq=>?_) (λq=>?_));{exact sg rfl (WP.ret (jI hT (by rfl) (bT fm)))};refine sg rfl (cd rfl (λr=>?_) (λr=>?_));{exact sg rfl (WP.ret (jI hT (by rfl) (bT fm)))};refine sg rfl (cd rfl (λs=>?_) (λs=>?_));{exact sg rfl (WP.ret (jI hT (by rfl) (bT fm)))};refine sk (sq (rg [] rfl ?_));exact WP.ret (jI hT (by rfl) (bT fm))
theorem V9 (op:Int):AC Tryz.prog T aJ 152 [.int op] [] (.v (.string (oh op))) []:=by
 refine aX Tryz.func152 ?_;refine sg rfl (sq (sq (rg [] rfl ?_)));refine cd rfl (λu=>?_) (λu=>?_)
 ·exact sg rfl (WP.ret (jI hT (by rfl) (bT fm)))
 refine sk (sq (sq (rg [] rfl ?_)));refine cd rfl (λw=>?_) (λw=>?_);{exact sg rfl (WP.ret (jI hT (by rfl) (bT fm)))};refine sk (sq (sq (rg [] rfl ?_)));refine bk (sq (rg [] rfl ?_));refine cd rfl (λx=>?_) (λx=>?_);{exact sg rfl (WP.ret (jI hT (by rfl) (bT fm)))};refine sg rfl (cd rfl (λy=>?_) (λy=>?_));{exact sg rfl (WP.ret (jI hT (by rfl) (bT fm)))};refine sg rfl (cd rfl (λb=>?_) (λb=>?_));{exact sg rfl (WP.ret (jI hT (by rfl) (bT fm)))};refine sg rfl (cd rfl (λc=>?_) (λc=>?_));{exact sg rfl (WP.ret (jI hT (by rfl) (bT fm)))};refine sg rfl (cd rfl (λd=>?_) (λd=>?_));{exact sg rfl (WP.ret (jI hT (by rfl) (bT fm)))};refine sg rfl (cd rfl (λe=>?_) (λe=>?_));{exact sg rfl (WP.ret (jI hT (by rfl) (bT fm)))};refine sg rfl (cd rfl (λf=>?_) (λf=>?_));{exact sg rfl (WP.ret (jI hT (by rfl) (bT fm)))};refine sg rfl (cd rfl (λg=>?_) (λg=>?_));{exact sg rfl (WP.ret (jI hT (by rfl) (bT fm)))};refine sg rfl (cd rfl (λh=>?_) (λh=>?_));{exact sg rfl (WP.ret (jI hT (by rfl) (bT fm)))};refine sg rfl (cd rfl (λi=>?_) (λi=>?_));{exact sg rfl (WP.ret (jI hT (by rfl) (bT fm)))};refine sg rfl (cd rfl (λj=>?_) (λj=>?_));{exact sg rfl (WP.ret (jI hT (by rfl) (bT fm)))};refine sq (sq (rg [] rfl ?_));refine cd rfl (λa=>?_) (λa=>?_);{refine sk (cd rfl (λa=>?_) (λa=>?_));{exact sg rfl (WP.ret (jI hT (by rfl) (bT fm)))};simp_all};refine rg [] rfl (cd rfl (λk=>?_) (λk=>?_));{exact sg rfl (WP.ret (jI hT (by rfl) (bT fm)))};refine sg rfl (cd rfl (λl=>?_) (λl=>?_));{exact sg rfl (WP.ret (jI hT (by rfl) (bT fm)))};refine sg rfl (cd rfl (λm=>?_) (λm=>?_));{exact sg rfl (WP.ret (jI hT (by rfl) (bT fm)))};refine sg rfl (cd rfl (λn=>?_) (λn=>?_));{exact sg rfl (WP.ret (jI hT (by rfl) (bT fm)))};refine sg rfl (cd rfl (λo=>?_) (λo=>?_));{exact sg rfl (WP.ret (jI hT (by rfl) (bT fm)))};refine sg rfl (cd rfl (λp=>?_) (λp=>?_));{exact sg rfl (WP.ret (jI hT (by rfl) (bT fm)))};refine sg rfl (cd rfl (λq=>?_) (λq=>?_));{exact sg rfl (WP.ret (jI hT (by rfl) (bT fm)))};refine sg rfl (cd rfl (λr=>?_) (λr=>?_));{exact sg rfl (WP.ret (jI hT (by rfl) (bT fm)))};refine sg rfl (cd rfl (λs=>?_) (λs=>?_));{exact sg rfl (WP.ret (jI hT (by rfl) (bT fm)))};refine sg rfl (cd rfl (λt=>?_) (λt=>?_));{exact sg rfl (WP.ret (jI hT (by rfl) (bT fm)))};refine sk (sq (rg [] rfl ?_));exact WP.ret (jI hT (by rfl) (bT fm))
def nK (op:Int):Bool:=(decide (op>=1)&&decide (op<=36))||(decide (op>=40)&&decide (op<=45))
def yh (op:Int):Bool:=decide (op>=50)&&decide (op<=65)
theorem Dt (op:Int):AC Tryz.prog T aJ 145 [.int op] [] (.bool (nK op)) []:=by
 refine aX Tryz.func145 ?_;refine sg rfl (sg rfl ?_);refine rX ?_;exact fin1 hT (by rfl) (by rw [band,band,fM];rfl)
theorem MI (op:Int):AC Tryz.prog T aJ 151 [.int op] [] (.bool (yh op)) []:=by
 refine aX Tryz.func151 ?_;refine sg rfl (sg rfl ?_);refine rX ?_;exact fin1 hT (by rfl) (by rw [band];rfl)
def EO (x:iF):List Int:=[x.a,x.b,x.c,x.n]
def WC (x:iF):AV:=kX 54 4 .i64 (EO x)
theorem Ci {Q:List UInt8->Prop} (op:Int) (y:1<=op/\op<=15->Q [114,114,45,45]) (z:16<=op/\op<=36->Q [114,114,114,45]) (h2:op=40\/op=44\/op=65->Q [114,45,45,110]) (h3:op=41->Q [114,114,45,45]) (h4:op=42->Q [116,45,45,45]) (h5:op=43->Q [114,116,45,45]) (h6:op=45\/op=64->Q [45,45,45,45]) (h7:op=50->Q [114,118,45,45]) (h8:op=51->Q [118,114,45,45]) (h9:op=52->Q [111,97,114,45]) (o:op=53->Q [114,97,114,119]) (p:op=54->Q [97,114,45,45]) (q:op=55\/op=56->Q [108,45,45,45]) (r:op=57->Q [114,108,45,45]) (s:op=58->Q [99,114,45,45]) (t:op=59->Q [111,99,111,45]) (u:op=60->Q [99,45,45,45]) (v:op=61->Q [115,45,45,45]) (w:op=62->Q [111,102,112,45]) (x:op=63->Q [114,45,45,45]) (hn:¬ (1<=op/\op<=36)/\¬ (40<=op/\op<=45)/\¬ (50<=op/\op<=65)->Q []):Q (jR op):=by
 unfold jR;by_cases c0:1<=op/\op<=15
 ·rw [aaI c0];exact y c0
 rw [Y0 c0];by_cases c1:16<=op/\op<=36
 ·rw [aaI c1];exact z c1
 rw [Y0 c1];by_cases c2:op=40\/op=44\/op=65
 ·rw [aaI c2];exact h2 c2
 rw [Y0 c2];by_cases c3:op=41
 ·rw [aaI c3];exact h3 c3
 rw [Y0 c3];by_cases c4:op=42
 ·rw [aaI c4];exact h4 c4
 rw [Y0 c4];by_cases c5:op=43
 ·rw [aaI c5];exact h5 c5
 rw [Y0 c5];by_cases k:op=45\/op=64
 ·rw [aaI k];exact h6 k
 rw [Y0 k];by_cases l:op=50
 ·rw [aaI l];exact h7 l
 rw [Y0 l];by_cases m:op=51
 ·rw [aaI m];exact h8 m
 rw [Y0 m];by_cases n:op=52
 ·rw [aaI n];exact h9 n
 rw [Y0 n];by_cases a:op=53
 ·rw [aaI a];exact o a
 rw [Y0 a];by_cases b:op=54
 ·rw [aaI b];exact p b
 rw [Y0 b];by_cases c:op=55\/op=56
 ·rw [aaI c];exact q c
 rw [Y0 c];by_cases d:op=57
 ·rw [aaI d];exact r d
 rw [Y0 d];by_cases e:op=58
 ·rw [aaI e];exact s e
 rw [Y0 e];by_cases f:op=59
 ·rw [aaI f];exact t f
 rw [Y0 f];by_cases g:op=60
 ·rw [aaI g];exact u g
 rw [Y0 g];by_cases h:op=61
 ·rw [aaI h];exact v h
 rw [Y0 h];by_cases i:op=62
 ·rw [aaI i];exact w i
 rw [Y0 i];by_cases j:op=63
 ·rw [aaI j];exact x j
 rw [Y0 j];exact hn (by omega)
theorem WB (x:iF):(AV.agg 54 4 λq=>bif Nat.beq q 3 then .int x.n else bif Nat.beq q 2 then .int x.c else bif Nat.beq q 1 then .int x.b else bif Nat.beq q 0 then .int x.a else .int 0)=WC x:=bP (λq=>by match q with | 0 | 1 | 2 | 3 | q+4=>rfl)
theorem Jz (op:Int):(jR op=[])↔nK op=false/\yh op=false:=by
 have hb:(nK op=false/\yh op=false)↔¬ (1<=op/\op<=36)/\¬ (40<=op/\op<=45)/\¬ (50<=op/\op<=65):=by unfold nK yh;simp only [ac0,adN,abW];omega
 rw [hb];refine Ci (Q:=λl=>l=[]↔_) op ?_ ?_ ?_ ?_ ?_ ?_ ?_ ?_ ?_ ?_ ?_ ?_ ?_ ?_ ?_ ?_ ?_ ?_ ?_ ?_ ?_;all_goals (intro h;constructor <;> intro k)
 all_goals (first | rfl | exact h | (exfalso;omega) | (exact absurd k (List.cons_ne_nil _ _)))
theorem Xx {op:Int} (h:jR op≠[]):(jR op).length=4:=by
 revert h;refine Ci (Q:=λl=>l≠[]->l.length=4) op ?_ ?_ ?_ ?_ ?_ ?_ ?_ ?_ ?_ ?_ ?_ ?_ ?_ ?_ ?_ ?_ ?_ ?_ ?_ ?_ ?_;all_goals (intro _ h;first | rfl | exact absurd rfl h)
def rD (op:Int) (k:Nat):Int:=byteAt (oh op) k
theorem Xe (op:Int) (k:Nat):rD op k=(((jR op)[k]?.getD 0).toNat:Nat):=by
 unfold rD byteAt oh;congr 2;by_cases h:k<(jR op).length
 ·(have a:k<(⟨(jR op).toArray⟩:ByteArray).size:=by simpa [ByteArray.size]using h);rw [getElem?_pos (⟨(jR op).toArray⟩:ByteArray) k a,getElem?_pos (jR op) k h];rfl
 (have a:¬ k<(⟨(jR op).toArray⟩:ByteArray).size:=by simpa [ByteArray.size]using h);rw [getElem?_neg (⟨(jR op).toArray⟩:ByteArray) k a,getElem?_neg (jR op) k h]
theorem Y9 {op:Int} {k:Nat} (h:rD op k=112):k=2/\rD op 1=102:=by
 rw [Xe]at h ⊢;revert h;refine Ci (Q:=λl=>((l[k]?.getD 0).toNat:Int)=112->k=2/\((l[1]?.getD 0).toNat:Int)=102) op ?_ ?_ ?_ ?_ ?_ ?_ ?_ ?_ ?_ ?_ ?_ ?_ ?_ ?_ ?_ ?_ ?_ ?_ ?_ ?_ ?_;all_goals (intro _ h;match k,h with| 0,h | 1,h | 2,h | 3,h=>(first | exact ⟨rfl,rfl⟩ | (exact absurd h (by decide)))| k+4,h=>(exact absurd h (by simp)))
def EI (p:Nat->Bool):Nat->Bool
 | 0=>false
 | i+1=>EI p i||p i
theorem D5 {p:Nat->Bool} {i:Nat} (h:p i=true):∀ {n:Nat},i<n->EI p n=true
 | n+1,hn=>by rw [EI,acM];by_cases e:i=n;{subst e;exact .inr h};exact .inl (D5 h (by omega))
theorem Sv (b:ByteArray):∀ (n i:Nat) (r:List UInt8),b.size - i=n->(ByteArray.toList.loop b i r).length=r.length+(b.size - i)
 | 0,i,r,h=>by unfold ByteArray.toList.loop;rw [Y0 (by omega),List.length_reverse];omega
 | n+1,i,r,h=>by unfold ByteArray.toList.loop;rw [aaI (by omega),Sv b n (i+1) _ (by omega),acO];omega
theorem X8 (b:ByteArray):b.toList.length=b.size:=by
 unfold ByteArray.toList;have:=Sv b _ 0 [] rfl;simpa using this
theorem Xy {op:Int} (h:((oh op).toList==(⟨#[]⟩:ByteArray).toList)=true):jR op=[]:=by
 have b:(oh op).toList=(⟨#[]⟩:ByteArray).toList:=by simpa using h
 have a:=ab5 List.length b;rw [X8,X8]at a;have c:(jR op).length=0:=by simpa [oh,ByteArray.size]using a
 exact ac1 c
theorem Xw {op:Int} (h:((oh op).toList==(⟨#[]⟩:ByteArray).toList)=false):jR op≠[]:=by
 intro e;have:oh op=⟨#[]⟩:=by rw [oh,e]
 rw [this]at h;simp at h
def ZY (x:iF) (k:Nat):Bool:=rD x.op k==45&&(EO x).getD k 0 != 0
def qx (p:aj) (f:fV) (x:iF):Nat->Int
 | 0=>0
 | k+1=>if qx p f x k≠0 then qx p f x k else aS p f (rD x.op k) ((EO x).getD k 0) x
def ji (p:aj) (f:fV) (x:iF):Int :=
 if jR x.op=[]then 33 else if EI (ZY x) 4 then 34 else qx p f x 4
theorem Jy {op:Int} (h:jR op≠[]):(oh op).size=4:=by
 have:=Xx h;simpa [oh,ByteArray.size]using this
theorem DY {p:aj} {f:fV} {x:iF} {k:Nat} (h:qx p f x k=0) (hb:aS p f (rD x.op k) ((EO x).getD k 0) x≠0):∀ {n:Nat},k<n->qx p f x n=aS p f (rD x.op k) ((EO x).getD k 0) x
 | n+1,hn=>by by_cases e:k=n;{subst e;rw [qx,h,Y0 (by simp)]};have a:=DY h hb (n:=n) (by omega);rw [qx,a,aaI hb]
theorem WA {p:aj} {f:fV} {x:iF} {k:Nat} (h:qx p f x k=0) (hc:rD x.op k=112):0<=x.b/\x.b<p.funcs.length:=by
 obtain ⟨rfl,d⟩:=Y9 hc;have c:aS p f (rD x.op 1) ((EO x).getD 1 0) x=0:=by(have e:qx p f x 2=if qx p f x 1≠0 then qx p f x 1 else aS p f (rD x.op 1) ((EO x).getD 1 0) x:=rfl);rw [e]at h;split at h;{rename_i a;exact absurd h a};exact h
 rw [d]at c;exact qP c
theorem Nu (x:iF):AC Tryz.prog T aJ 216 [aT x] [] (WC x) []:=by
 refine aX Tryz.func216 ?_;refine sg rfl (sg rfl ?_);refine rX ?_;refine Fin.ent (tV.mk (P:=Tryz.prog) hT [] (ts:=[(2,.ptr (.s 2 0) 1 0 [])]) (ms:=[(.s 2 0,.cells ⟨54,1,λ_=>WC x,0⟩)]) trivial ⟨⟨rfl,_,rfl,ah rfl⟩,tt⟩ ⟨⟨λ_ _=>DI (λ_ _=>rfl),.inl ⟨_,rfl,_,_,rfl,aa1 _,abr _,abr _,λq a=>by (obtain rfl:q=0:=(by simp at a;exact a));exact ah (WB x)⟩⟩,tt⟩ rfl) ?_;refine aH hT [(.s 2 0,1)] (ts:=[(2,.rp 54 (WC x))]) (l:=[WC x]) ⟨⟨_,rfl,aa1 _⟩,tt⟩ ⟨⟨rfl,_,rfl,bH rfl rfl (by simp [dL,aQ]) rfl rfl GL⟩,tt⟩ trivial rfl rfl rfl
theorem Xh (p:aj) (f:fV) (x:iF):AC Tryz.prog T aJ 157 [.rp 257 (yZ p f),aT x] [] (.int (ji p f x)) []:=by
 refine aX Tryz.func157 ?_;refine sg rfl (sq (rgs [CG.pure (.v (.string (oh x.op)))] rfl ?_ ?_))
 ·have hf:=Zl x.op;simp [ay,under,CG.pure];exact hf
 refine sq (sq (rg [] rfl ?_));refine cd rfl (λg=>?_) (λg=>?_)
 ·have j:jR x.op=[]:=Xy g;exact sg rfl (WP.ret (bC hT (by rfl) (by rw [ji,aaI j])))
 have b:jR x.op≠[]:=Xw g;have hsz:=Jy b;refine sk (sq (rgs [CG.pure (WC x)] rfl ?_ ?_));{have l:=Nu x;simp [ay,under,CG.pure];exact l};refine sq (sq (rg [] rfl ?_));refine bk (WP.loop (α:=Nat) (λk=>aN [(0,.rp 257 (yZ p f)),(3,.rp 120 (aT x)),(5,.v (.string (oh x.op))),(6,.rp 54 (WC x)),(19,WC x),(20,.int k)] []) (λk=>k<=4/\EI (ZY x) k=false) (λk=>4 - k) ?_ ?_);{refine ⟨0,?_,?_⟩;{exact ⟨abr _,rfl⟩};refine em [(.s 3 0,1),(.s 6 0,1)] ⟨⟨_,rfl,aa1 _⟩,⟨_,rfl,aa1 _⟩,tt⟩ ⟨cq,⟨rfl,_,rfl,bH rfl rfl (by decide) rfl rfl rfl⟩,cq,⟨rfl,_,rfl,bH rfl rfl (by decide) rfl rfl rfl⟩,cq,cq,tt⟩ trivial};rintro k ⟨hk,hn⟩;refine sg rfl (sq ?_);refine cd rfl (λh=>?_) (λh=>?_);{(have a:k<4:=by simp at h;omega);refine sk (sq (bk (sq (rgs [] rfl ?_ ?_))));{simp [ay,under];omega};refine sq (rgs [] rfl ?_ ?_);{simp [ay,under,hsz];omega};refine cd rfl (λi=>?_) (λi=>?_);{(have hb:ZY x k=true:=by have e:(bif rD x.op k==45 then (EO x).getD k 0 != 0 else false)=true:=i;rwa [band]at e);exact sg rfl (WP.ret (bC hT (by rfl) (by rw [ji,Y0 b,D5 hb a,aaI rfl])))};(have hb:ZY x k=false:=by have e:(bif rD x.op k==45 then (EO x).getD k 0 != 0 else false)=false:=i;rwa [band]at e);refine sk (rg [] rfl ?_);refine ⟨k+1,?_,?_,?_⟩;{exact ⟨a,by rw [EI,hn,hb];rfl⟩};{refine eX cX trivial};(try simp only []);first | omega | grind};(have a:k=4:=by simp at h;omega);subst a;refine xt (sq (sq (rg [] rfl ?_)));refine bk (WP.loop (α:=Nat) (λk=>aN [(0,.rp 257 (yZ p f)),(3,.rp 120 (aT x)),(5,.v (.string (oh x.op))),(33,WC x),(34,.int k)] []) (λk=>k<=4/\qx p f x k=0) (λk=>4 - k) ?_ ?_);{refine ⟨0,?_,?_⟩;{exact ⟨abr _,rfl⟩};refine eX cX trivial};rintro k ⟨hk,he⟩;refine sg rfl (sq ?_);refine cd rfl (λc=>?_) (λc=>?_);{(have a:k<4:=by simp at c;omega);refine sk (sq (bk (sq (rgs [] rfl ?_ ?_))));{simp [ay,under];omega};refine sq (drs [CG.pure (.int (aS p f (rD x.op k) ((EO x).getD k 0) x))] rfl ?_ ?_);{have l:=PX p f (rD x.op k) ((EO x).getD k 0) x (λhc=>WA he hc);(have m:k<(oh x.op).size:=by omega);refine ⟨⟨by omega,by omega⟩,?_⟩;exact l};refine sg rfl (cd rfl (λd=>?_) (λd=>?_));{(have hb:aS p f (rD x.op k) ((EO x).getD k 0) x≠0:=by simpa using d);refine sg rfl (rX ?_);refine bC hT (by rfl) ?_;rw [ji,Y0 b,hn,Y0 (by simp),DY he hb a]};(have hb:aS p f (rD x.op k) ((EO x).getD k 0) x=0:=by simpa using d);refine sk (rg [] rfl ?_);refine ⟨k+1,?_,?_,?_⟩;{exact ⟨a,by rw [qx,he,Y0 (by simp)];exact hb⟩};{refine eX cX trivial};(try simp only []);first | omega | grind};(have a:k=4:=by simp at c;omega);subst a;refine xt (sq (rg [] rfl ?_));refine rX ?_;exact bC hT (by rfl) (by rw [ji,Y0 b,hn];simp [he])
theorem TD (p:aj) (f:fV) (x:iF):AC Tryz.prog T aJ 109 [ak p,jv f,aT x] [] (.int (ji p f x)) []:=by
 refine aX Tryz.func109 ?_;refine sg rfl (sq (sq (rgs [CG.pure (.bool (nK x.op)),CG.pure (.bool (yh x.op))] rfl ?_ ?_)))
 ·have g:=Dt x.op;have l:=MI x.op;simp [ay,under,CG.pure];exact ⟨g,λ_=>l⟩
 refine cd rfl (λg=>?_) (λg=>?_)
 ·(have j:jR x.op=[]:=by have e:(bif !nK x.op then !yh x.op else false)=true:=g;rw [band,aa3,adE,adE]at e;exact (Jz x.op).2 e);exact sg rfl (WP.ret (bC hT (by rfl) (by rw [ji,aaI j])))
 (have b:jR x.op≠[]:=by have e:(bif !nK x.op then !yh x.op else false)=false:=g;rw [band]at e;intro o;have:=(Jz x.op).1 o;rw [this.1,this.2]at e;cases e);have hsz:=Jy b;refine sk (sq (rgs [CG.pure (.v (.string (oh x.op)))] rfl ?_ ?_));{have hf:=V9 x.op;simp [ay,under,CG.pure];exact hf};refine sg rfl (sq (sq (rg [] rfl ?_)));refine bk (WP.loop (α:=Nat) (λk=>aN [(3,.rp 26 (ak p)),(4,.rp 100 (jv f)),(5,.rp 120 (aT x)),(7,.v (.string (oh x.op))),(8,.rp 54 (WC x)),(9,.int k)] []) (λk=>k<=4/\EI (ZY x) k=false) (λk=>4 - k) ?_ ?_);{refine ⟨0,?_,?_⟩;{exact ⟨abr _,rfl⟩};refine em [(.s 3 0,1),(.s 4 0,1),(.s 5 0,1),(.s 8 0,1)] ⟨⟨_,rfl,aa1 _⟩,⟨_,rfl,aa1 _⟩,⟨_,rfl,aa1 _⟩,⟨_,rfl,aa1 _⟩,tt⟩ ⟨⟨rfl,_,rfl,bH rfl rfl (by decide) rfl rfl rfl⟩,⟨rfl,_,rfl,bH rfl rfl (by decide) rfl rfl rfl⟩,⟨rfl,_,rfl,bH rfl rfl (by decide) rfl rfl rfl⟩,cq,⟨rfl,_,rfl,bH rfl rfl (by decide) rfl (WB x) GL⟩,cq,tt⟩ trivial};rintro k ⟨hk,hn⟩;refine sq (sq (rg [] rfl ?_));refine cd rfl (λh=>?_) (λh=>?_);{(have a:k<4:=by simp at h;omega);refine sk (sq (bk (sq (rgs [] rfl ?_ ?_))));{simp [ay,under,hsz];omega};refine cd rfl (λi=>?_) (λi=>?_);{(have hb:ZY x k=true:=by have e:(bif rD x.op k==45 then (EO x).getD k 0 != 0 else false)=true:=i;rwa [band]at e);exact sg rfl (WP.ret (bC hT (by rfl) (by rw [ji,Y0 b,D5 hb a,aaI rfl])))};(have hb:ZY x k=false:=by have e:(bif rD x.op k==45 then (EO x).getD k 0 != 0 else false)=false:=i;rwa [band]at e);refine sk (rg [] rfl ?_);refine ⟨k+1,?_,?_,?_⟩;{exact ⟨a,by rw [EI,hn,hb];rfl⟩};{refine eX cX trivial};(try simp only []);first | omega | grind};(have a:k=4:=by simp at h;omega);subst a;refine xt (sq (sq (rg [] rfl ?_)));refine bk (WP.loop (α:=Nat) (λk=>aN [(3,.rp 26 (ak p)),(4,.rp 100 (jv f)),(5,.rp 120 (aT x)),(7,.v (.string (oh x.op))),(8,.rp 54 (WC x)),(10,.int k)] []) (λk=>k<=4/\qx p f x k=0) (λk=>4 - k) ?_ ?_);{refine ⟨0,?_,?_⟩;{exact ⟨abr _,rfl⟩};refine eX cX trivial};rintro k ⟨hk,he⟩;refine sq (sq (rg [] rfl ?_));refine cd rfl (λc=>?_) (λc=>?_);{(have a:k<4:=by simp at c;omega);refine sk (sq (bk (sq (drs [CG.pure (.int (aS p f (rD x.op k) ((EO x).getD k 0) x))] rfl ?_ ?_))));{have n:=MP p f (rD x.op k) ((EO x).getD k 0) x (λhc=>WA he hc);(have m:k<(oh x.op).size:=by omega);refine ⟨⟨⟨by omega,by omega⟩,⟨by omega,by omega⟩⟩,?_⟩;exact n};refine sg rfl (cd rfl (λd=>?_) (λd=>?_));{(have hb:aS p f (rD x.op k) ((EO x).getD k 0) x≠0:=by simpa using d);refine sg rfl (rX ?_);refine bC hT (by rfl) ?_;rw [ji,Y0 b,hn,Y0 (by simp),DY he hb a]};(have hb:aS p f (rD x.op k) ((EO x).getD k 0) x=0:=by simpa using d);refine sk (rg [] rfl ?_);refine ⟨k+1,?_,?_,?_⟩;{exact ⟨a,by rw [qx,he,Y0 (by simp)];exact hb⟩};{refine eX cX trivial};(try simp only []);first | omega | grind};(have a:k=4:=by simp at c;omega);subst a;refine xt (sq (rg [] rfl ?_));refine rX ?_;exact bC hT (by rfl) (by rw [ji,Y0 b,hn];simp [he])
def AA {α:Type} (g:α->Int):List α->Int
 | []=>0
 | x::r=>if g x≠0 then g x else AA g r
theorem xC {α:Type} {g:α->Int} {d:α}:∀ {l:List α} {i:Nat},i<l.length->(∀ j,j<i->g (l.getD j d)=0)->g (l.getD i d)≠0->AA g l=g (l.getD i d)
 | x::r,0,_,_,hb=>by have a:g x≠0:=hb;rw [AA,aaI a];rfl
 | x::r,i+1,hi,hn,hb=>by have b:=hn 0 (by omega);rw [AA,Y0 (by simpa using b)];exact xC (l:=r) (i:=i) (by simpa using hi) (λj c=>hn (j+1) (by omega)) hb
theorem lH {α:Type} {g:α->Int} {d:α}:∀ {l:List α},(∀ j,j<l.length->g (l.getD j d)=0)->AA g l=0
 | [],_=>rfl
 | x::r,hn=>by have a:=hn 0 (by simp);rw [AA,Y0 (by simpa using a)];exact lH (l:=r) (λj b=>hn (j+1) (by simpa using b))
def szB (p:aj):Bool:=decide ((p.vars.length:Int)>8)||decide (p.locks<0)||decide (p.locks>4)||decide ((p.chans.length:Int)>4)||decide ((p.funcs.length:Int)<1)||decide ((p.funcs.length:Int)>8)
def EC (n:Int):Int:=if decide (n<0)||decide (n>4)then 31 else 0
def kS (p:aj):Int:=if szB p then 30 else AA EC p.chans
theorem iT {P:Nat->Prop} {i:Nat} (h:∀ j,j<i->P j) (hi:P i):∀ j,j<i+1->P j:=λj b=>by
 rcases acf j i with a | a
 ·exact h j a
 ·obtain rfl:j=i:=by omega
  exact hi
theorem Vd (p:aj):AC Tryz.prog T aJ 154 [ak p] [] (.int (kS p)) []:=by
 refine aX Tryz.func154 ?_;refine sg rfl (sq (sq (rg [] rfl ?_)));refine cd rfl (λb=>?_) (λb=>?_)
 ·(have hb:szB p=true:=by simp only [fM]at b;exact b);exact sg rfl (WP.ret (bC hT (by rfl) (by rw [kS,aaI hb])))
 (have hb:szB p=false:=by simp only [fM]at b;exact b);(have e:p.chans.length<=4:=by simp [szB]at hb;omega);refine sk (sq (sq (rg [] rfl ?_)));refine bk (WP.loop (α:=Nat) (λi=>aN [(38,ints false p.chans),(39,.int p.chans.length),(40,.int i)] []) (λi=>i<=p.chans.length /\ ∀ j,j<i->EC (p.chans.getD j 0)=0) (λi=>p.chans.length - i) ?_ ?_);{refine ⟨0,?_,?_⟩;{exact ⟨abr _,λj f=>by omega⟩};refine eX cX trivial};rintro i ⟨hi,hn⟩;refine sg rfl (sq ?_);refine cd rfl (λd=>?_) (λd=>?_);{(have a:i<p.chans.length:=by simpa using d);refine sk (sq (bk (sq (rgs [] rfl ?_ ?_))));{simp [ay,under];omega};refine sg rfl (cd rfl (λc=>?_) (λc=>?_));{(have hx:EC (p.chans.getD i 0)=31:=by simp only [fM]at c;exact aaI c);refine sg rfl (rX ?_);exact bC hT (by rfl) (by rw [kS,hb,Y0 (by simp),xC a hn (by rw [hx];decide),hx])};(have hx:EC (p.chans.getD i 0)=0:=by simp only [fM]at c;exact Y0 (by rw [show (decide (p.chans.getD i 0<0)||decide (p.chans.getD i 0>4))=false from c];decide));refine sk (rg [] rfl ?_);refine ⟨i+1,?_,?_,?_⟩;{exact ⟨a,iT hn hx⟩};{refine eX cX trivial};(try simp only []);first | omega | grind};(have a:i=p.chans.length:=by simp at d;omega);subst a;refine xt (sq (rg [] rfl ?_));exact WP.ret (bC hT (by rfl) (by rw [kS,hb,Y0 (by simp),lH hn]))
def Ph (f:fV) (main:Bool):Bool:=(decide (f.regs>=0)&&decide (f.regs<=8)&&decide (f.params>=0)&&decide (f.params<=f.regs) && !(main&&decide (f.params>0)))&&decide ((f.code.length:Int)>=1)&&decide ((f.code.length:Int)<=64)&&decide ((f.sels.length:Int)<=4)
theorem qM {f:fV} {main:Bool}:Ph f main=true↔0<=f.regs/\f.regs<=8/\0<=f.params/\f.params<=f.regs/\¬ (main=true/\f.params>0)/\(f.code.length:Int)>=1/\(f.code.length:Int)<=64/\(f.sels.length:Int)<=4:=by
 simp only [Ph,aa3,abK,adE,adN,abW];cases main <;> simp <;> omega
theorem not_true {b:Bool} (h:¬ b=true):b=false:=by simpa using h
def EN (s:tN):Bool:=decide ((s.cases.length:Int)>=1)&&decide ((s.cases.length:Int)<=4)
def sQ (f:fV):Nat->Bool
 | 0=>true
 | i+1=>sQ f i&&EN (f.sels.getD i wP)
theorem Ti {f:fV} {i:Nat} {n:Nat} (h:i<n) (hx:EN (f.sels.getD i wP)=false):sQ f n=false:=by
 induction n with| zero=>omega| succ n a=>rw [sQ];by_cases e:i=n;{subst e;rw [hx,Bool.and_false]};rw [a (by omega),adl]
def fU (f:fV) (main:Bool):Bool:=Ph f main&&sQ f f.sels.length
theorem Vz (f:fV) (main:Bool):AC Tryz.prog T aJ 155 [jv f,.bool main] [] (.int (if fU f main then 0 else 32)) []:=by
 refine aX Tryz.func155 ?_;refine sg rfl (sg rfl ?_);refine sg rfl (sq (sq (rg [] rfl ?_)));refine WP.rowlen 57 rfl (λg=>?_);refine bk (WP.loop (α:=Nat×Bool) (λ(⟨i,ok⟩:Nat×Bool)=>aN [(5,.bool ok),(57,rowP 103 jG wP f.sels),(58,.int f.sels.length),(59,.int i)] []) (λ(⟨i,ok⟩:Nat×Bool)=>i<=f.sels.length/\ok=(Ph f main&&sQ f i)) (λ(⟨i,ok⟩:Nat×Bool)=>f.sels.length - i) ?_ ?_)
 ·refine ⟨(0,Ph f main),?_,?_⟩;{exact ⟨abr _,by simp [sQ]⟩};refine eX ⟨⟨rfl,_,rfl,ah (by simp only [band];rfl)⟩,cq,cq,cq,tt⟩ trivial
 rintro ⟨i,ok⟩ ⟨hi,b⟩;refine sg rfl (sq ?_);refine cd rfl (λc=>?_) (λc=>?_);{(have a:i<f.sels.length:=by simpa using c);refine sk (sq (bk (sq (rgs [] rfl ?_ ?_))));{simp [ay,under];omega};refine rg [] rfl (rg [] rfl ?_);refine ⟨(i+1,Ph f main&&sQ f (i+1)),?_,?_,?_⟩;{exact ⟨a,rfl⟩};{refine eX ⟨⟨rfl,_,rfl,ah (by simp only [band];rw [b,sQ,EN];simp only [Bool.and_assoc];rfl)⟩,cq,cq,cq,tt⟩ trivial};(try simp only []);first | omega | grind};(have a:i=f.sels.length:=by simp at c;omega);subst a;refine xt (sq (sq (rg [] rfl ?_)));refine cd rfl (λd=>?_) (λd=>?_);{(have e:fU f main=false:=by rw [fU,<- b];simpa using d);refine sg rfl (rX ?_);exact bC hT (by rfl) (by rw [e];rfl)};(have e:fU f main=true:=by rw [fU,<- b];simpa using d);refine sk (sq (rg [] rfl ?_));refine rX ?_;exact bC hT (by rfl) (by rw [e];rfl)
theorem Uo (n:Nat) (f:fV):AC Tryz.prog T aJ 107 [.int n,jv f] [] (.bool (fU f (n==0))) []:=by
 refine aX Tryz.func107 ?_;refine sg rfl (sq (sq (rg [] rfl ?_)));refine cd rfl (λd=>?_) (λd=>?_)
 ·(have hb:Ph f (n==0)=false:=by refine not_true λc=>?_;rw [qM]at c;simp only [fM,band,acM,aa3,abK,ab9,bne_iff_ne]at d c;omega);refine sg rfl (rX ?_);exact fin1 hT (by rfl) (by rw [fU,hb];rfl)
 refine sk (sq (sq (rg [] rfl ?_)));refine cd rfl (λe=>?_) (λe=>?_);{(have hb:Ph f (n==0)=false:=by refine not_true λc=>?_;rw [qM]at c;simp only [fM,band,acM,aa3,abK,ab9,bne_iff_ne]at e c;omega);refine sg rfl (rX ?_);exact fin1 hT (by rfl) (by rw [fU,hb];rfl)};(have hb:Ph f (n==0)=true:=by rw [qM];simp only [fM,band,ac0,adN,abW,ab9,abL,bne_eq_false_iff_eq]at d e ⊢;omega);(have j:f.sels.length<=4:=by simp [Ph]at hb;omega);refine sk (sq (sq (rg [] rfl ?_)));refine bk (WP.loop (α:=Nat) (λi=>aN [(53,rowP 103 jG wP f.sels),(54,.int f.sels.length),(55,.int i)] []) (λi=>i<=f.sels.length/\sQ f i=true) (λi=>f.sels.length - i) ?_ ?_);{refine ⟨0,?_,?_⟩;{exact ⟨abr _,rfl⟩};refine eX cX trivial};rintro i ⟨hi,b⟩;refine sg rfl (sq ?_);refine cd rfl (λg=>?_) (λg=>?_);{(have a:i<f.sels.length:=by simpa using g);refine sk (sq (bk (sq (rgs [] rfl ?_ ?_))));{simp [ay,under];omega};refine sg rfl (cd rfl (λh=>?_) (λh=>?_));{(have hx:EN (f.sels.getD i wP)=false:=by simp only [fM,acM,abK,ab6]at h;simp only [EN,adN,abW];omega);exact sg rfl (WP.ret (fin1 hT (by rfl) (by rw [fU,Ti a hx,Bool.and_false])))};(have hx:EN (f.sels.getD i wP)=true:=by simp only [fM,ac0,abW,ab6]at h;simp only [EN,aa3,abK];omega);refine sk (rg [] rfl ?_);refine ⟨i+1,?_,?_,?_⟩;{exact ⟨a,by rw [sQ,b,hx];rfl⟩};{refine eX cX trivial};(try simp only []);first | omega | grind};(have a:i=f.sels.length:=by simp at g;omega);subst a;refine xt (sq (rg [] rfl ?_));refine rX ?_;exact fin1 hT (by rfl) (by rw [fU,hb,b];rfl)
theorem Bh {f:fV}:∀ {n:Nat},sQ f n=true -> ∀ i,i<n->EN (f.sels.getD i wP)=true
 | n+1,h,i,hi=>by rw [sQ,aa3]at h;by_cases e:i=n;{subst e;exact h.2};exact Bh h.1 i (by omega)
def oM (p:aj) (f:fV) (c:zf):Int :=
 if dK c.chan p.chans.length≠0 then 36 else if (c.send||c.reg != -1)=true/\dY f c.reg≠0 then 35 else
 if (c.send&&p.chans.getD c.chan.toNat 0==0)=true then 37 else dV f c.to
def y5 (f:fV) (s:tN):Int:=if s.els ≠ -1 then dV f s.els else 0
def Dn (p:aj) (f:fV) (s:tN):Int:=if AA (oM p f) s.cases≠0 then AA (oM p f) s.cases else y5 f s
def qU (p:aj) (f:fV):Int:=AA (Dn p f) f.sels
abbrev aO (f:fV) (i:Nat):tN:=f.sels.getD i wP
abbrev aA (s:tN) (k:Nat):zf:=s.cases.getD k EG
theorem mD {p:aj} {f:fV} {s:tN} {k:Nat} {e:Int} (hk:k<s.cases.length) (hn:∀ j,j<k->oM p f (aA s j)=0) (he:oM p f (aA s k)=e) (a:e≠0):Dn p f s=e:=by
 subst he;have:=xC hk hn a;rw [Dn,this,aaI a]
theorem kL {p:aj} {f:fV} {i:Nat} {e:Int} (hi:i<f.sels.length) (hn:∀ j,j<i->Dn p f (aO f j)=0) (he:Dn p f (aO f i)=e) (a:e≠0):qU p f=e:=by
 subst he;rw [qU,xC hi hn a]
theorem WT {n m:Int} (h:dK n m≠0):dK n m=36:=by
 unfold dK at h ⊢;split
 ·rename_i hw;rw [aaI hw]at h;exact absurd rfl h
 rfl
theorem Wq {f:fV} {n:Int} (h:dY f n≠0):dY f n=35:=by
 unfold dY at h ⊢;split
 ·rename_i hw;rw [aaI hw]at h;exact absurd rfl h
 rfl
theorem Pq (p:aj) (f:fV) (m:Bool) (hf:fU f m=true):AC Tryz.prog T aJ 156 [.rp 257 (yZ p f)] [] (.int (qU p f)) []:=by
 refine aX Tryz.func156 ?_;have hsz:Ph f m=true:=by rw [fU,aa3]at hf;exact hf.1
 have a2:sQ f f.sels.length=true:=by rw [fU,aa3]at hf;exact hf.2
 rw [qM]at hsz;refine sg rfl (sq (sq (rg [] rfl ?_)));refine bk (WP.loop (α:=Nat) (λi=>aN [(0,.rp 257 (yZ p f)),(15,rowP 103 jG wP f.sels),(16,.int f.sels.length),(17,.int i)] []) (λi=>i<=f.sels.length /\ ∀ j,j<i->Dn p f (aO f j)=0) (λi=>f.sels.length - i) ?_ ?_)
 ·refine ⟨0,?_,?_⟩;{exact ⟨abr _,λj hj=>by omega⟩};refine eX cX trivial
 rintro i ⟨hi,hn⟩;refine sg rfl (sq ?_);refine cd rfl (λx=>?_) (λx=>?_);{(have a:i<f.sels.length:=by simpa using x);have a0:=Bh a2 i a;(have a4:(aO f i).cases.length<=4:=by simp only [EN,aa3,abK]at a0;simp only [aO];omega);refine sk (sq (bk (sq (rgs [] rfl ?_ ?_))));{simp [ay,under];omega};refine sq (sq (rg [] rfl ?_));refine bk (WP.loop (α:=Nat) (λk=>aN [(0,.rp 257 (yZ p f)),(4,.rp 103 (jG (aO f i))),(15,rowP 103 jG wP f.sels),(16,.int f.sels.length),(17,.int i),(22,rowP 215 qg EG (aO f i).cases),(23,.int (aO f i).cases.length),(24,.int k)] []) (λk=>k<=(aO f i).cases.length /\ ∀ j,j<k->oM p f (aA (aO f i) j)=0) (λk=>(aO f i).cases.length - k) ?_ ?_);{refine ⟨0,?_,?_⟩;{exact ⟨abr _,λj hj=>by omega⟩};refine em [(.s 4 0,1)] ⟨⟨_,rfl,aa1 _⟩,tt⟩ ⟨cq,⟨rfl,_,rfl,bH rfl rfl (by decide) rfl rfl rfl⟩,cq,cq,cq,cq,cq,cq,tt⟩ trivial};rintro k ⟨hk,hc⟩;refine sg rfl (sq ?_);refine cd rfl (λy=>?_) (λy=>?_);{(have b:k<(aO f i).cases.length:=by simpa using y);refine sk (sq (bk (sq (rgs [] rfl ?_ ?_))));{have a3:k<(f.sels[i]?.getD wP).cases.length:=b;simp [ay,under];omega};refine sq (sq (drs [CG.pure (.int (dK (aA (aO f i) k).chan p.chans.length))] rfl ?_ ?_));{have n:=qF (aA (aO f i) k).chan p.chans.length;refine ⟨⟨rfl,rfl⟩,?_⟩;exact n};refine sg rfl (cd rfl (λz=>?_) (λz=>?_));{(have hb:dK (aA (aO f i) k).chan p.chans.length≠0:=by simpa using z);refine sg rfl (rX ?_);refine bC hT (by rfl) ?_;rw [WT hb,kL a hn (mD b hc (by rw [oM,aaI hb]) (by decide)) (by decide)]};(have hb:dK (aA (aO f i) k).chan p.chans.length=0:=by simpa using z);have l:=qP hb;refine sk (sq (sq (rg [] rfl ?_)));refine cd rfl (λq=>?_) (λq=>?_);{(have a1:((aA (aO f i) k).send||(aA (aO f i) k).reg != -1)=true:=by have e:(bif (aA (aO f i) k).send then true else (aA (aO f i) k).reg != -1)=true:=q;rwa [fM]at e);refine sq (rgs [CG.pure (.int (dY f (aA (aO f i) k).reg))] rfl ?_ ?_);{have n:=uw p f (aA (aO f i) k).reg;refine ⟨⟨rfl,rfl⟩,?_⟩;exact n};refine sg rfl (cd rfl (λr=>?_) (λr=>?_));{(have o:dY f (aA (aO f i) k).reg≠0:=by simpa using r);refine sg rfl (rX ?_);refine bC hT (by rfl) ?_;rw [Wq o,kL a hn (mD b hc (by rw [oM,Y0 (λh=>h hb),aaI ⟨a1,o⟩]) (by decide)) (by decide)]};have o:¬ (((aA (aO f i) k).send||(aA (aO f i) k).reg != -1)=true/\dY f (aA (aO f i) k).reg≠0):=λh=>h.2 (by simpa using r);refine sk (sq (sq (drs [] rfl ?_ ?_)));{simp only [aO,aA,aaS]at l;simp [ay,under];exact λ_=>l};refine cd rfl (λc=>?_) (λc=>?_);{(have w:((aA (aO f i) k).send&&p.chans.getD (aA (aO f i) k).chan.toNat 0==0)=true:=by have e:(bif (aA (aO f i) k).send then p.chans.getD (aA (aO f i) k).chan.toNat 0==0 else false)=true:=c;rwa [band]at e);refine sg rfl (rX ?_);refine bC hT (by rfl) ?_;rw [kL a hn (mD b hc (by rw [oM,Y0 (λh=>h hb),Y0 o,aaI w]) (by decide)) (by decide)]};(have w:¬ ((aA (aO f i) k).send&&p.chans.getD (aA (aO f i) k).chan.toNat 0==0)=true:=by have e:(bif (aA (aO f i) k).send then p.chans.getD (aA (aO f i) k).chan.toNat 0==0 else false)=false:=c;rw [band]at e;rw [e];decide);(have g:oM p f (aA (aO f i) k)=dV f (aA (aO f i) k).to:=by rw [oM,Y0 (λh=>h hb),Y0 o,Y0 w]);refine sk (sq (rgs [CG.pure (.int (dV f (aA (aO f i) k).to))] rfl ?_ ?_));{have n:=zk p f (aA (aO f i) k).to;refine ⟨⟨rfl,rfl⟩,?_⟩;exact n};refine sg rfl (cd rfl (λd=>?_) (λd=>?_));{(have ht:dV f (aA (aO f i) k).to≠0:=by simpa using d);refine sg rfl (rX ?_);refine bC hT (by rfl) ?_;rw [kL a hn (mD b hc g ht) ht]};(have ht:dV f (aA (aO f i) k).to=0:=by simpa using d);refine sk (rg [] rfl ?_);refine ⟨k+1,?_,?_,?_⟩;{exact ⟨b,iT hc (by rw [g,ht])⟩};{refine eX cX trivial};(try simp only []);first | omega | grind};(have o:¬ (((aA (aO f i) k).send||(aA (aO f i) k).reg != -1)=true/\dY f (aA (aO f i) k).reg≠0):=by have e:(bif (aA (aO f i) k).send then true else (aA (aO f i) k).reg != -1)=false:=q;rw [fM]at e;rw [e];simp);refine sk (sq (sq (drs [] rfl ?_ ?_)));{simp only [aO,aA,aaS]at l;simp [ay,under];exact λ_=>l};refine cd rfl (λc=>?_) (λc=>?_);{(have w:((aA (aO f i) k).send&&p.chans.getD (aA (aO f i) k).chan.toNat 0==0)=true:=by have e:(bif (aA (aO f i) k).send then p.chans.getD (aA (aO f i) k).chan.toNat 0==0 else false)=true:=c;rwa [band]at e);refine sg rfl (rX ?_);refine bC hT (by rfl) ?_;rw [kL a hn (mD b hc (by rw [oM,Y0 (λh=>h hb),Y0 o,aaI w]) (by decide)) (by decide)]};(have w:¬ ((aA (aO f i) k).send&&p.chans.getD (aA (aO f i) k).chan.toNat 0==0)=true:=by have e:(bif (aA (aO f i) k).send then p.chans.getD (aA (aO f i) k).chan.toNat 0==0 else false)=false:=c;rw [band]at e;rw [e];decide);(have g:oM p f (aA (aO f i) k)=dV f (aA (aO f i) k).to:=by rw [oM,Y0 (λh=>h hb),Y0 o,Y0 w]);refine sk (sq (rgs [CG.pure (.int (dV f (aA (aO f i) k).to))] rfl ?_ ?_));{have n:=zk p f (aA (aO f i) k).to;refine ⟨⟨rfl,rfl⟩,?_⟩;exact n};refine sg rfl (cd rfl (λd=>?_) (λd=>?_));{(have ht:dV f (aA (aO f i) k).to≠0:=by simpa using d);refine sg rfl (rX ?_);refine bC hT (by rfl) ?_;rw [kL a hn (mD b hc g ht) ht]};(have ht:dV f (aA (aO f i) k).to=0:=by simpa using d);refine sk (rg [] rfl ?_);refine ⟨k+1,?_,?_,?_⟩;{exact ⟨b,iT hc (by rw [g,ht])⟩};{refine eX cX trivial};(try simp only []);first | omega | grind};(have b:k=(aO f i).cases.length:=by simp only [abW]at y;omega);subst b;(have v:Dn p f (aO f i)=y5 f (aO f i):=by rw [Dn,lH hc];simp);refine xt (sq (rg [] rfl ?_));refine cd rfl (λt=>?_) (λt=>?_);{(have he:(aO f i).els ≠ -1:=by simpa using t);refine sq (rgs [CG.pure (.int (dV f (aO f i).els))] rfl ?_ ?_);{have n:=zk p f (aO f i).els;exact n};refine sg rfl (cd rfl (λu=>?_) (λu=>?_));{(have ht:dV f (aO f i).els≠0:=by simpa using u);refine sg rfl (rX ?_);refine bC hT (by rfl) ?_;rw [kL a hn (by rw [v,y5,aaI he]) ht]};(have ht:dV f (aO f i).els=0:=by simpa using u);refine sk (rg [] rfl ?_);refine ⟨i+1,?_,?_,?_⟩;{exact ⟨a,iT hn (by rw [v,y5,aaI he,ht])⟩};{refine eX cX trivial};(try simp only []);first | omega | grind};(have he:(aO f i).els = -1:=by simpa using t);refine sk (rg [] rfl ?_);refine ⟨i+1,?_,?_,?_⟩;{exact ⟨a,iT hn (by rw [v,y5,Y0 (λh=>h he)])⟩};{refine eX cX trivial};(try simp only []);first | omega | grind};(have a:i=f.sels.length:=by simp at x;omega);subst a;refine xt (sq (rg [] rfl ?_));exact WP.ret (bC hT (by rfl) (by rw [qU,lH hn]))
theorem aaA (n m:Int):dK n m≠0↔dF n m=false:=by
 unfold dK;cases dF n m <;> simp
theorem Wn (f:fV) (n:Int):dY f n≠0↔dF n f.regs=false:=by
 unfold dY;cases dF n f.regs <;> simp
theorem MN (p:aj) (f:fV) (m:Bool) (hf:fU f m=true):AC Tryz.prog T aJ 108 [ak p,jv f] [] (.int (qU p f)) []:=by
 refine aX Tryz.func108 ?_;have hsz:Ph f m=true:=by rw [fU,aa3]at hf;exact hf.1
 have a0:sQ f f.sels.length=true:=by rw [fU,aa3]at hf;exact hf.2
 rw [qM]at hsz;refine sg rfl (sq (sq (rg [] rfl ?_)));refine bk (WP.loop (α:=Nat) (λi=>aN [(2,.rp 26 (ak p)),(3,.rp 100 (jv f)),(10,rowP 103 jG wP f.sels),(11,.int f.sels.length),(12,.int i)] []) (λi=>i<=f.sels.length /\ ∀ j,j<i->Dn p f (aO f j)=0) (λi=>f.sels.length - i) ?_ ?_)
 ·refine ⟨0,?_,?_⟩;{exact ⟨abr _,λj hj=>by omega⟩};refine em [(.s 2 0,1),(.s 3 0,1)] ⟨⟨_,rfl,aa1 _⟩,⟨_,rfl,aa1 _⟩,tt⟩ ⟨⟨rfl,_,rfl,bH rfl rfl (by decide) rfl rfl rfl⟩,⟨rfl,_,rfl,bH rfl rfl (by decide) rfl rfl rfl⟩,cq,cq,cq,tt⟩ trivial
 rintro i ⟨hi,hn⟩;refine sg rfl (sq ?_);refine cd rfl (λu=>?_) (λu=>?_);{(have c:i<f.sels.length:=by simpa using u);have z:=Bh a0 i c;(have a4:(aO f i).cases.length<=4:=by simp only [EN,aa3,abK]at z;simp only [aO];omega);refine sk (sq (bk (sq (rgs [] rfl ?_ ?_))));{simp [ay,under];omega};refine sq (sq (rg [] rfl ?_));refine bk (WP.loop (α:=Nat) (λk=>aN [(2,.rp 26 (ak p)),(3,.rp 100 (jv f)),(6,.rp 103 (jG (aO f i))),(10,rowP 103 jG wP f.sels),(11,.int f.sels.length),(12,.int i),(17,rowP 215 qg EG (aO f i).cases),(18,.int (aO f i).cases.length),(19,.int k)] []) (λk=>k<=(aO f i).cases.length /\ ∀ j,j<k->oM p f (aA (aO f i) j)=0) (λk=>(aO f i).cases.length - k) ?_ ?_);{refine ⟨0,?_,?_⟩;{exact ⟨abr _,λj hj=>by omega⟩};refine em [(.s 6 0,1)] ⟨⟨_,rfl,aa1 _⟩,tt⟩ ⟨cq,cq,⟨rfl,_,rfl,bH rfl rfl (by decide) rfl rfl rfl⟩,cq,cq,cq,cq,cq,cq,tt⟩ trivial};rintro k ⟨hk,hc⟩;refine sg rfl (sq ?_);refine cd rfl (λv=>?_) (λv=>?_);{(have d:k<(aO f i).cases.length:=by simpa using v);refine sk (sq (bk (sq (rgs [] rfl ?_ ?_))));{have a2:k<(f.sels[i]?.getD wP).cases.length:=d;simp [ay,under];omega};refine sq (sq (rgs [CG.pure (.bool (dF (aA (aO f i) k).chan p.chans.length))] rfl ?_ ?_));{have o:=iP (aA (aO f i) k).chan p.chans.length;refine ⟨⟨rfl,rfl⟩,?_⟩;exact o};refine cd rfl (λw=>?_) (λw=>?_);{have hb:dK (aA (aO f i) k).chan p.chans.length≠0:=(aaA _ _).2 (by simpa using w);refine sg rfl (rX ?_);refine bC hT (by rfl) ?_;rw [kL c hn (mD d hc (by rw [oM,aaI hb]) (by decide)) (by decide)]};(have hb:dK (aA (aO f i) k).chan p.chans.length=0:=by(have e:dF (aA (aO f i) k).chan p.chans.length=true:=by simpa using w);rw [dK,aaI e]);have y:=qP hb;refine sk (sq (sq (rgs [CG.pure (.bool (dF (aA (aO f i) k).reg f.regs))] rfl ?_ ?_)));{have o:=iP (aA (aO f i) k).reg f.regs;simp [ay,under,CG.pure];refine ⟨o,?_⟩;intro a b;simp [a,b]};refine cd rfl (λx=>?_) (λx=>?_);{(have t:((aA (aO f i) k).send||(aA (aO f i) k).reg != -1)=true/\dY f (aA (aO f i) k).reg≠0:=by have e:(bif !dF (aA (aO f i) k).reg f.regs then (bif (aA (aO f i) k).send then true else (aA (aO f i) k).reg != -1)else false)=true:=x;rw [band,fM,aa3]at e;exact ⟨e.2,(Wn _ _).2 (by simpa using e.1)⟩);refine sg rfl (rX ?_);refine bC hT (by rfl) ?_;rw [kL c hn (mD d hc (by rw [oM,Y0 (λh=>h hb),aaI t]) (by decide)) (by decide)]};(have t:¬ (((aA (aO f i) k).send||(aA (aO f i) k).reg != -1)=true/\dY f (aA (aO f i) k).reg≠0):=by have e:(bif !dF (aA (aO f i) k).reg f.regs then (bif (aA (aO f i) k).send then true else (aA (aO f i) k).reg != -1)else false)=false:=x;rw [band,fM]at e;rintro ⟨a,b⟩;rw [a,(Wn _ _).1 b]at e;cases e);refine sk (sq (sq (rgs [] rfl ?_ ?_)));{simp [ay,under];exact λ_=>y};refine cd rfl (λg=>?_) (λg=>?_);{(have hz:((aA (aO f i) k).send&&p.chans.getD (aA (aO f i) k).chan.toNat 0==0)=true:=by have e:(bif (aA (aO f i) k).send then p.chans.getD (aA (aO f i) k).chan.toNat 0==0 else false)=true:=g;rwa [band]at e);refine sg rfl (rX ?_);refine bC hT (by rfl) ?_;rw [kL c hn (mD d hc (by rw [oM,Y0 (λh=>h hb),Y0 t,aaI hz]) (by decide)) (by decide)]};(have hz:¬ ((aA (aO f i) k).send&&p.chans.getD (aA (aO f i) k).chan.toNat 0==0)=true:=by have e:(bif (aA (aO f i) k).send then p.chans.getD (aA (aO f i) k).chan.toNat 0==0 else false)=false:=g;rw [band]at e;rw [e];decide);(have q:oM p f (aA (aO f i) k)=dV f (aA (aO f i) k).to:=by rw [oM,Y0 (λh=>h hb),Y0 t,Y0 hz]);refine sk (sq (rgs [CG.pure (.bool (dF (aA (aO f i) k).to f.code.length))] rfl ?_ ?_));{have o:=iP (aA (aO f i) k).to f.code.length;refine ⟨⟨rfl,rfl⟩,?_⟩;exact o};refine cd rfl (λl=>?_) (λl=>?_);{(have ht:dV f (aA (aO f i) k).to=38:=by(have e:dF (aA (aO f i) k).to f.code.length=false:=by simpa using l);rw [dV,e];rfl);refine sg rfl (rX ?_);refine bC hT (by rfl) ?_;rw [kL c hn (mD d hc (by rw [q,ht]) (by decide)) (by decide)]};(have ht:dV f (aA (aO f i) k).to=0:=by(have e:dF (aA (aO f i) k).to f.code.length=true:=by simpa using l);rw [dV,aaI e]);refine sk (rg [] rfl ?_);refine ⟨k+1,?_,?_,?_⟩;{exact ⟨d,iT hc (by rw [q,ht])⟩};{refine eX cX trivial};(try simp only []);first | omega | grind};(have d:k=(aO f i).cases.length:=by simp only [abW]at v;omega);subst d;(have r:Dn p f (aO f i)=y5 f (aO f i):=by rw [Dn,lH hc];simp);refine xt (sq (rgs [CG.pure (.bool (dF (aO f i).els f.code.length))] rfl ?_ ?_));{have o:=iP (aO f i).els f.code.length;simp [ay,under,CG.pure];exact λ_=>o};refine cd rfl (λn=>?_) (λn=>?_);{(have he:y5 f (aO f i)=38:=by have e:(bif (aO f i).els != -1 then !dF (aO f i).els f.code.length else false)=true:=n;rw [band,aa3,adE]at e;rw [y5,aaI (by simpa using e.1),dV,e.2];rfl);refine sg rfl (rX ?_);refine bC hT (by rfl) ?_;rw [kL c hn (by rw [r,he]) (by decide)]};(have he:y5 f (aO f i)=0:=by have e:(bif (aO f i).els != -1 then !dF (aO f i).els f.code.length else false)=false:=n;rw [band]at e;rw [y5];split;{rename_i h1;rw [show ((aO f i).els != -1)=true by simpa using h1,acL]at e;rw [dV,aaI (by simpa using e)]};rfl);refine sk (rg [] rfl ?_);refine ⟨i+1,?_,?_,?_⟩;{exact ⟨c,iT hn (by rw [r,he])⟩};{refine eX cX trivial};(try simp only []);first | omega | grind};(have c:i=f.sels.length:=by simp at u;omega);subst c;refine xt (sq (rg [] rfl ?_));exact WP.ret (bC hT (by rfl) (by rw [qU,lH hn]))
def fkE {α:Type} (g:α->Int):List α->Nat
 | []=>0
 | x::r=>if g x≠0 then 0 else fkE g r+1
theorem Qr {α:Type} {g:α->Int} {d:α}:∀ {l:List α} {i:Nat},i<l.length->(∀ j,j<i->g (l.getD j d)=0)->g (l.getD i d)≠0->fkE g l=i
 | x::r,0,_,_,hb=>by have a:g x≠0:=hb;rw [fkE,aaI a]
 | x::r,i+1,hi,hn,hb=>by have b:=hn 0 (by omega);rw [fkE,Y0 (by simpa using b)];rw [Qr (l:=r) (i:=i) (by simpa using hi) (λj c=>hn (j+1) (by omega)) hb]
def xR (a b:Int):AV:=bI 128 [.int a,.int b]
def yc (f:fV):Int:=(f.code.getD (f.code.length - 1) nM).op
def uh (op:Int):Bool:=op==42||op==45||op==61
theorem Qx {x:Int} (h:(x==42)=true):uh x=true:=by rw [uh,h];rfl
theorem Qw {x:Int} (h:(x==45)=true):uh x=true:=by rw [uh,h];simp
theorem Qv {x:Int} (h:(x==61)=true):uh x=true:=by rw [uh,h];simp
theorem RZ {x:Int} (a:(x==42)=false) (b:(x==45)=false) (c:(x==61)=false):uh x=false:=by rw [uh,a,b,c];rfl
def tu (p:aj) (f:fV) (main:Bool):Int×Int :=
 if fU f main=false then (32,0)else if qU p f≠0 then (qU p f,0)else
 if AA (ji p f) f.code≠0 then (AA (ji p f) f.code,fkE (ji p f) f.code)else
 if uh (yc f)then (0,0)else (39,(f.code.length:Int) - 1)
abbrev aV (p:aj) (i:Nat):fV:=p.funcs.getD i lG
def qV (p:aj):Nat->Nat->Int×Int×Int
 | 0,_=>(0,0,0)
 | n+1,i=>if (tu p (aV p i) (i==0)).1≠0 then ((tu p (aV p i) (i==0)).1,i,(tu p (aV p i) (i==0)).2)else qV p n (i+1)
def o7 (p:aj):Int×Int×Int:=if kS p≠0 then (kS p,0,0)else qV p p.funcs.length 0
theorem uO {p:aj}:∀ {i n:Nat},i<=n->(∀ j,j<i->(tu p (aV p j) (j==0)).1=0)->qV p n 0=qV p (n - i) i
 | 0,n,_,_=>rfl
 | i+1,n,h,hn=>by rw [uO (i:=i) (by omega) (λj a=>hn j (by omega)),show n - i=(n - (i+1))+1 by omega,qV,Y0 (λh=>h (hn i (by omega)))]
theorem qZ {p:aj} {i:Nat} {e pc:Int} (hw:kS p=0) (hi:i<p.funcs.length) (hn:∀ j,j<i->(tu p (aV p j) (j==0)).1=0) (he:tu p (aV p i) (i==0)=(e,pc)) (a:e≠0):o7 p=(e,(i:Int),pc):=by
 rw [o7,Y0 (by simp [hw]),uO (Nat.le_of_lt hi) hn,show p.funcs.length - i=(p.funcs.length - i - 1)+1 by omega,qV,he,aaI a]
theorem OC {p:aj} (hw:kS p=0) (hn:∀ j,j<p.funcs.length->(tu p (aV p j) (j==0)).1=0):o7 p=(0,0,0):=by
 rw [o7,Y0 (by simp [hw]),uO (aa1 _) hn,Nat.sub_self];rfl
def y7 (p:aj):AV := .tup [.int (o7 p).1,xR (o7 p).2.1 (o7 p).2.2]
theorem Qa (a b:Int):fC (xR a b)=true:=rfl
theorem lI {nt:Nat} {st:St} {p:aj} {e a b:Int} {B:zh} (hc:o7 p=(e,a,b)) (i:st.t 2=some (.always,.int e)) (j:st.t 3=some (.always,.ptr (.s 3 0) 1 0 [])) (hm:st.m (.s 3 0)=some (.cells B)) (f:B.ty=128) (d:B.n=1) (c:B.fz=0) (h:Conv st.m (λid=>dL id []) T (B.get 0) (xR a b)):Fin T aJ nt 0 [.tmp 2,.cell 3 128] (y7 p) [] st:=by
 obtain ⟨ty,n,get,fz⟩:=B;simp only at f d c h;subst f d c;rw [y7,hc];refine Fin.ent (tV.mk (P:=Tryz.prog) hT [] (ts:=[(2,.int e),(3,.ptr (.s 3 0) 1 0 [])]) (ms:=[(.s 3 0,.cells ⟨128,1,λ_=>xR a b,0⟩)]) trivial ⟨⟨rfl,_,i,ah rfl⟩,⟨rfl,_,j,ah rfl⟩,tt⟩ ⟨⟨λ_ _=>rfl,.inl ⟨_,hm,_,_,rfl,aa1 _,abr _,abr _,λq g=>?_⟩⟩,tt⟩ rfl) ?_
 ·(obtain rfl:q=0:=by simp at g;exact g);exact h
 refine aH hT [(.s 3 0,1)] (ts:=[(2,.int e),(3,.rp 128 (xR a b))]) (l:=[.int e,xR a b]) ⟨⟨_,rfl,aa1 _⟩,tt⟩ ⟨⟨rfl,_,rfl,ah rfl⟩,⟨rfl,_,rfl,?_⟩,tt⟩ trivial rfl rfl rfl;exact bH rfl rfl (by simp [dL,aQ]) rfl rfl (Qa a b)
theorem Dy (p:aj):AC Tryz.prog T aJ 111 [ak p] [] (y7 p) []:=by
 refine aX Tryz.func111 ?_;refine sg rfl (sq (sq (rgs [CG.pure (.int (kS p))] rfl ?_ ?_)))
 ·have hw:=Vd p;exact ⟨rfl,hw⟩
 refine sg rfl (cd rfl (λu=>?_) (λu=>?_))
 ·(have hw:kS p≠0:=by simpa using u);refine sg rfl (rX ?_);refine lI (e:=kS p) (a:=0) (b:=0) (by rw [o7,aaI hw]) rfl rfl rfl rfl rfl rfl ?_;exact ah rfl
 ·have hw:kS p=0:=by simpa using u
  have a5:p.funcs.length<=8:=by(have y:szB p=false:=by unfold kS at hw;split at hw;{cases hw};rename_i h;simpa using h);simp [szB]at y;omega
  refine sk (sq (sq (rg [] rfl ?_)))
  refine bk (WP.loop (α:=Nat) (λi=>aN [(1,.rp 26 (ak p)),(3,.ptr (.s 3 0) 1 0 []),(21,rowP 100 jv lG p.funcs),(22,.int p.funcs.length),(23,.int i)] [(.s 3 0,.cells ⟨128,1,λ_=>xR 0 0,0⟩)]) (λi=>i<=p.funcs.length /\ ∀ j,j<i->(tu p (aV p j) (j==0)).1=0) (λi=>p.funcs.length - i) ?_ ?_)
  ·refine ⟨0,?_,?_⟩;{exact ⟨abr _,λj hj=>by omega⟩};refine em [(.s 1 0,1)] ⟨⟨_,rfl,aa1 _⟩,tt⟩ ⟨⟨rfl,_,rfl,bH rfl rfl (by decide) rfl rfl rfl⟩,cq,cq,cq,cq,tt⟩ ⟨obs rfl,tt⟩
  ·rintro i ⟨hi,hn⟩
   refine sg rfl (sq ?_)
   refine cd rfl (λz=>?_) (λz=>?_)
   ·have c:i<p.funcs.length:=by simpa using z
    refine sk (sq (bk (sq (rgs [] rfl ?_ ?_))))
    ·simp [ay,under];omega
    refine sq (sq (rgs [CG.pure (.int (if fU (aV p i) (i==0)then 0 else 32))] rfl ?_ ?_))
    ·have x:=Vz (aV p i) (i==0);(have ei:((i:Int)==0)=(i==0):=by rw [abT];simp);refine ⟨rfl,?_⟩;(have a1:AC Tryz.prog T aJ 155 [jv (aV p i),.bool ((i:Int)==0)] [] (.int (if fU (aV p i) (i==0)then 0 else 32)) []:=by rw [ei];exact x);exact a1
    refine sg rfl (cd rfl (λv=>?_) (λv=>?_))
    ·(have hb:fU (aV p i) (i==0)=false:=by cases x:fU (aV p i) (i==0)with| false=>rfl| true=>rw [x]at v;simp at v);refine sg rfl (rX ?_);exact lI (e:=(if fU (aV p i) (i==0)then 0 else 32)) (a:=i) (b:=0) (by rw [hb];exact qZ (e:=32) hw c hn (by rw [tu,aaI hb]) (by decide)) rfl rfl rfl rfl rfl rfl (ah (bP (λq=>by match q with | 0 | 1 | q+2=>rfl)))
    ·have hb:fU (aV p i) (i==0)=true:=by cases x:fU (aV p i) (i==0)with| true=>rfl| false=>rw [x]at v;simp at v
     have a0:(aV p i).code.length<=64/\1<=(aV p i).code.length:=by(have y:Ph (aV p i) (i==0)=true:=by have u:=hb;rw [fU,aa3]at u;exact u.1);rw [qM]at y;omega
     refine sk (sq (rg [] rfl ?_))
     refine sq (sq ?_)
     refine wF [(.s 6 0,1),(.s 40 0,1)] ⟨⟨_,rfl,aa1 _⟩,⟨_,rfl,aa1 _⟩,tt⟩ [(1,.rp 26 (ak p)),(3,.ptr (.s 3 0) 1 0 []),(5,.int i),(6,.rp 100 (jv (aV p i))),(8,.rp 257 (yZ p (aV p i))),(21,rowP 100 jv lG p.funcs),(22,.int p.funcs.length),(23,.int i)] [(.s 3 0,.cells ⟨128,1,λ_=>xR 0 0,0⟩)] ⟨cq,cq,cq,⟨rfl,_,rfl,bH rfl rfl (by decide) rfl rfl rfl⟩,⟨rfl,_,rfl,bH rfl rfl (by decide) rfl (bP (λq=>by match q with | 0 | 1 | q+2=>rfl)) rfl⟩,cq,cq,cq,tt⟩ ⟨obs rfl,tt⟩ (rgs [CG.pure (.int (qU p (aV p i)))] rfl ?_ ?_)
     ·have n:=Pq p (aV p i) (i==0) hb;exact n
     refine sg rfl (cd rfl (λo=>?_) (λo=>?_))
     ·(have n:qU p (aV p i)≠0:=by simpa using o);refine sg rfl (rX ?_);exact lI (e:=qU p (aV p i)) (a:=i) (b:=0) (qZ hw c hn (by rw [tu,Y0 (by rw [hb];decide),aaI n]) n) rfl rfl rfl rfl rfl rfl (ah (bP (λq=>by match q with | 0 | 1 | q+2=>rfl)))
     ·have n:qU p (aV p i)=0:=by simpa using o
      refine sk (sq (sq (rg [] rfl ?_)))
      refine bk (WP.loop (α:=Nat) (λk=>aN [(1,.rp 26 (ak p)),(3,.ptr (.s 3 0) 1 0 []),(5,.int i),(6,.rp 100 (jv (aV p i))),(8,.rp 257 (yZ p (aV p i))),(21,rowP 100 jv lG p.funcs),(22,.int p.funcs.length),(23,.int i),(49,rowP 120 aT nM (aV p i).code),(50,.int (aV p i).code.length),(51,.int k)] [(.s 3 0,.cells ⟨128,1,λ_=>xR 0 0,0⟩)]) (λk=>k<=(aV p i).code.length /\ ∀ j,j<k->ji p (aV p i) ((aV p i).code.getD j nM)=0) (λk=>(aV p i).code.length - k) ?_ ?_)
      ·refine ⟨0,?_,?_⟩;{exact ⟨abr _,λj hj=>by omega⟩};refine eX cX ⟨obs rfl,tt⟩
      ·rintro k ⟨hk,hc⟩
       refine sg rfl (sq ?_)
       refine cd rfl (λr=>?_) (λr=>?_)
       ·(have g:k<(aV p i).code.length:=by simpa using r);refine sk (sq (bk (sq (rgs [] rfl ?_ ?_))));{have a3:k<(p.funcs[i]?.getD lG).code.length:=g;simp [ay,under];omega};refine sq (rgs [CG.pure (.int (ji p (aV p i) ((aV p i).code.getD k nM)))] rfl ?_ ?_);{have hx:=Xh p (aV p i) ((aV p i).code.getD k nM);refine ⟨rfl,?_⟩;exact hx};refine sg rfl (cd rfl (λt=>?_) (λt=>?_));{(have hx:ji p (aV p i) ((aV p i).code.getD k nM)≠0:=by simpa using t);refine sg rfl (rX ?_);exact lI (e:=ji p (aV p i) ((aV p i).code.getD k nM)) (a:=i) (b:=k) (qZ hw c hn (by rw [tu,Y0 (by rw [hb];decide),Y0 (λh=>h n),xC g hc hx,Qr g hc hx,aaI hx]) hx) rfl rfl rfl rfl rfl rfl (ah (bP (λq=>by match q with | 0 | 1 | q+2=>rfl)))};(have hx:ji p (aV p i) ((aV p i).code.getD k nM)=0:=by simpa using t);refine sk (rg [] rfl ?_);refine ⟨k+1,?_,?_,?_⟩;{exact ⟨g,iT hc hx⟩};{refine eX cX ⟨obs rfl,tt⟩};(try simp only []);first | omega | grind
       ·have g:k=(aV p i).code.length:=by simp only [abW]at r;omega
        subst g
        refine xt (sq (rg [] rfl ?_))
        refine sq (rgs [] rfl ?_ ?_)
        ·have a2:(p.funcs[i]?.getD lG).code.length<=64/\1<=(p.funcs[i]?.getD lG).code.length:=a0;simp [ay,under];rw [bK (by omega) (by omega)];omega
        refine bk (sq (sq ?_))
        have w:(aV p i).code.getD (IntKind.i64.wrap (((aV p i).code.length:Int) - 1)).toNat nM=(aV p i).code.getD ((aV p i).code.length - 1) nM:=by rw [bK (by omega) (by omega)];congr 1;omega
        have l:((aV p i).code.getD (IntKind.i64.wrap (((aV p i).code.length:Int) - 1)).toNat nM).op=yc (aV p i):=by rw [w];rfl
        refine rg [] rfl (cd rfl (λd=>?_) (λd=>?_))
        ·refine sk (cd rfl (λd=>?_) (λd=>?_));{refine sk (rg [] rfl ?_);refine ⟨i+1,?_,?_,?_⟩;{refine ⟨c,iT hn ?_⟩;(have he:uh (yc (aV p i))=true:=by first | exact Qx (by rw [<- l];exact d) | exact Qw (by rw [<- l];exact f) | exact Qv (by rw [<- l];exact m));rw [tu,Y0 (by rw [hb];decide),Y0 (λh=>h n),Y0 (λh=>h (lH hc)),aaI he]};{refine eX cX ⟨obs rfl,tt⟩};(try simp only []);first | omega | grind};simp_all
        ·refine sg rfl (cd rfl (λf=>?_) (λf=>?_))
         ·refine sk (cd rfl (λf=>?_) (λf=>?_));{refine sk (rg [] rfl ?_);refine ⟨i+1,?_,?_,?_⟩;{refine ⟨c,iT hn ?_⟩;(have he:uh (yc (aV p i))=true:=by first | exact Qx (by rw [<- l];exact d) | exact Qw (by rw [<- l];exact f) | exact Qv (by rw [<- l];exact m));rw [tu,Y0 (by rw [hb];decide),Y0 (λh=>h n),Y0 (λh=>h (lH hc)),aaI he]};{refine eX cX ⟨obs rfl,tt⟩};(try simp only []);first | omega | grind};simp_all
         ·refine rg [] rfl (cd rfl (λm=>?_) (λm=>?_))
          ·refine sk (rg [] rfl ?_);refine ⟨i+1,?_,?_,?_⟩;{refine ⟨c,iT hn ?_⟩;(have he:uh (yc (aV p i))=true:=by first | exact Qx (by rw [<- l];exact d) | exact Qw (by rw [<- l];exact f) | exact Qv (by rw [<- l];exact m));rw [tu,Y0 (by rw [hb];decide),Y0 (λh=>h n),Y0 (λh=>h (lH hc)),aaI he]};{refine eX cX ⟨obs rfl,tt⟩};(try simp only []);first | omega | grind
          ·refine sg rfl (rX ?_)
           have he:uh (yc (aV p i))=false:=RZ (by rw [<- l];exact d) (by rw [<- l];exact f) (by rw [<- l];exact m)
           exact lI (e:=39) (a:=i) (b:=IntKind.i64.wrap (((aV p i).code.length:Int) - 1)) (by
            rw [bK (by omega) (by omega)]
            exact qZ hw c hn (by rw [tu,Y0 (by rw [hb];decide),Y0 (λh=>h n),Y0 (λh=>h (lH hc)),Y0 (by rw [he];decide)]) (by decide)) rfl rfl rfl rfl rfl rfl (ah (bP (λq=>by match q with | 0 | 1 | q+2=>rfl)))
   (have c:i=p.funcs.length:=by simp at z;omega)
   subst c
   refine xt (sq (rg [] rfl ?_))
   exact WP.ret (lI (e:=0) (a:=0) (b:=0) (OC hw hn) rfl rfl rfl rfl rfl rfl (ah rfl))
structure jm where
 status:Int
 func:Int
 pc:Int
 why:Int
 regs:List Int
 deriving DecidableEq
structure iM where
 buf:List Int
 len:Int
 closed:Bool
 offer:Int
 frm:Int
 val:Int
 deriving DecidableEq
structure bW where
 vars:List Int
 owner:List Int
 chans:List iM
 gos:List jm
 count:Int
 deriving DecidableEq
def go0:jm:=⟨0,0,0,0,[0,0,0,0,0,0,0,0]⟩
def AU:iM:=⟨[0,0,0,0],0,false,0,0,0⟩
def st0:bW:=⟨[0,0,0,0,0,0,0,0],[0,0,0,0],[AU,AU,AU,AU],[go0,go0,go0,go0,go0,go0],0⟩
def Ap (g:jm):Prop:=g.regs.length=8
def DJ (c:iM):Prop:=c.buf.length=4
structure mZ (s:bW):Prop where
 vars:s.vars.length=8
 owner:s.owner.length=4
 chans:s.chans.length=4
 gos:s.gos.length=6
 ch:∀ c∈s.chans,DJ c
 go:∀ g∈s.gos,Ap g
def cZ (g:jm):AV:=bI 59 [.int g.status,.int g.func,.int g.pc,.int g.why,kX 52 8 .i64 g.regs]
def dS (c:iM):AV:=bI 56 [kX 54 4 .i64 c.buf,.int c.len,.bool c.closed,.int c.offer,.int c.frm,.int c.val]
def yx {α:Type} (t n:Nat) (enc:α->AV) (d:α) (l:List α):AV := .agg t n (λi=>enc (l.getD i d))
def encS (s:bW):AV:=bI 62 [kX 52 8 .i64 s.vars,kX 53 4 .i64 s.owner,yx 57 4 dS AU s.chans,yx 60 6 cZ go0 s.gos,.int s.count]
theorem OU {α:Type} {t n k:Nat} {enc:α->AV} {d x:α} {l:List α} {p:List Nat} {y:AV} (h:k<l.length) (e:(enc (l.getD k d)).put p y=enc x):(yx t n enc d l).put (k::p) y=yx t n enc d (l.set k x):=by
 simp only [yx,AV.put,AV.agg.injEq,true_and];funext j;cases a:Nat.beq j k with| true=>have:=abe a;subst this;simp only [aco];rw [e];simp [h]| false=>(have:¬ k=j:=λe=>by subst e;simp at a);simp [this]
theorem Rq (ids:List Id) (s:bW):fE ids (encS s)=true:=rfl
theorem gu (g:jm) (x:Int):(cZ g).put [0] (.int x)=cZ { g with status:=x}:=dB (abJ rfl)
theorem pO (g:jm) (x:Int):(cZ g).put [2] (.int x)=cZ { g with pc:=x}:=dB (abJ rfl)
theorem Dx (g:jm) (x:Int):(cZ g).put [3] (.int x)=cZ { g with why:=x}:=dB (abJ rfl)
theorem kM {g:jm} {k:Nat} (x:Int) (h:k<g.regs.length):(cZ g).put [4,k] (.int x)=cZ { g with regs:=g.regs.set k x}:=(dB (abJ rfl)).trans (by rw [show ([AV.int g.status,.int g.func,.int g.pc,.int g.why,kX 52 8 .i64 g.regs].getD 4 .bad)=kX 52 8 .i64 g.regs from rfl,y9 h];rfl)
theorem Gp (g:jm) (l:List Int):(cZ g).put [4] (kX 52 8 .i64 l)=cZ { g with regs:=l}:=dB (abJ rfl)
theorem Ri (g x:jm):(cZ g).put [] (cZ x)=cZ x:=by cases g;rfl
theorem vN {c:iM} {k:Nat} (x:Int) (h:k<c.buf.length):(dS c).put [0,k] (.int x)=dS { c with buf:=c.buf.set k x}:=(dB (abJ rfl)).trans (by rw [show ([kX 54 4 .i64 c.buf,AV.int c.len,.bool c.closed,.int c.offer,.int c.frm,.int c.val].getD 0 .bad)=kX 54 4 .i64 c.buf from rfl,y9 h];rfl)
theorem su (c:iM) (x:Int):(dS c).put [1] (.int x)=dS { c with len:=x}:=dB (abJ rfl)
theorem wZ (c:iM) (x:Bool):(dS c).put [2] (.bool x)=dS { c with closed:=x}:=dB (abJ rfl)
theorem jQ (c:iM) (x:Int):(dS c).put [3] (.int x)=dS { c with offer:=x}:=dB (abJ rfl)
theorem vM (c:iM) (x:Int):(dS c).put [4] (.int x)=dS { c with frm:=x}:=dB (abJ rfl)
theorem mG (c:iM) (x:Int):(dS c).put [5] (.int x)=dS { c with val:=x}:=dB (abJ rfl)
theorem vJ {s:bW} {k:Nat} (x:Int) (h:k<s.vars.length):(encS s).put [0,k] (.int x)=encS { s with vars:=s.vars.set k x}:=(dB (abJ rfl)).trans (ab5 (λz=>bI 62 [z,kX 53 4 .i64 s.owner,yx 57 4 dS AU s.chans,yx 60 6 cZ go0 s.gos,.int s.count]) (y9 h))
theorem BG {s:bW} {k:Nat} (x:Int) (h:k<s.owner.length):(encS s).put [1,k] (.int x)=encS { s with owner:=s.owner.set k x}:=(dB (abJ rfl)).trans (ab5 (λz=>bI 62 [kX 52 8 .i64 s.vars,z,yx 57 4 dS AU s.chans,yx 60 6 cZ go0 s.gos,.int s.count]) (y9 h))
theorem uy {s:bW} {k:Nat} {p:List Nat} {y:AV} {c:iM} (h:k<s.chans.length) (e:(dS (s.chans.getD k AU)).put p y=dS c):(encS s).put (2::k::p) y=encS { s with chans:=s.chans.set k c}:=(dB (abJ rfl)).trans (ab5 (λz=>bI 62 [kX 52 8 .i64 s.vars,kX 53 4 .i64 s.owner,z,yx 60 6 cZ go0 s.gos,.int s.count]) (OU h e))
theorem mQ {s:bW} {k:Nat} {p:List Nat} {y:AV} {g:jm} (h:k<s.gos.length) (e:(cZ (s.gos.getD k go0)).put p y=cZ g):(encS s).put (3::k::p) y=encS { s with gos:=s.gos.set k g}:=(dB (abJ rfl)).trans (ab5 (λz=>bI 62 [kX 52 8 .i64 s.vars,kX 53 4 .i64 s.owner,yx 57 4 dS AU s.chans,z,.int s.count]) (OU h e))
theorem wY (s:bW) (x:Int):(encS s).put [4] (.int x)=encS { s with count:=x}:=dB (abJ rfl)
theorem abQ (s t:bW):(encS s).put [] (encS t)=encS t:=by cases s;rfl
abbrev goI (s:bW) (g:Int):jm:=s.gos.getD g.toNat go0
abbrev bV (s:bW) (c:Int):iM:=s.chans.getD c.toNat AU
abbrev jo (s:bW) (v:Int):Int:=s.vars.getD v.toNat 0
abbrev mg (s:bW) (v:Int):Int:=s.owner.getD v.toNat 0
abbrev bg (g:jm) (r:Int):Int:=g.regs.getD r.toNat 0
theorem pU:mZ st0:=⟨rfl,rfl,rfl,rfl,by simp [st0,AU,DJ],by simp [st0,go0,Ap]⟩
def dX (p:aj):Bool:=(o7 p).1==0
theorem vX {α:Type} {g:α->Int}:∀ {l:List α},AA g l=0 -> ∀ x∈l,g x=0
 | y::r,h,x,hx=>by rw [AA]at h;split at h;{rename_i a;exact absurd h a};rename_i b;rcases List.mem_cons.1 hx with rfl | hx;{simpa using b};exact vX h x hx
theorem zO {p:aj}:∀ {n i:Nat},(qV p n i).1=0 -> ∀ j,i<=j->j<i+n->(tu p (aV p j) (j==0)).1=0
 | 0,i,_,j,h1,h2=>by omega
 | n+1,i,h,j,h1,h2=>by rw [qV]at h;split at h;{rename_i a;exact absurd h a};rename_i b;by_cases e:j=i;{subst e;simpa using b};exact zO h j (by omega) (by omega)
def iQ (f:fV) (n:Int):Prop:=0<=n/\n<f.regs
def aZ (n:Int) (m:Nat):Prop:=0<=n/\n<m
structure C9 (p:aj) (f:fV) (x:iF):Prop where
 op:nK x.op=true\/yh x.op=true
 num:1<=x.op/\x.op<=36->iQ f x.a/\iQ f x.b
 num2:16<=x.op/\x.op<=36->iQ f x.c
 const:x.op=40\/x.op=44\/x.op=65\/x.op=63\/x.op=43->iQ f x.a
 move:x.op=41->iQ f x.a/\iQ f x.b
 jump:x.op=42->aZ x.a f.code.length
 cond:x.op=43->aZ x.b f.code.length
 load:x.op=50->iQ f x.a/\aZ x.b p.vars.length
 store:x.op=51\/x.op=54->iQ f x.b/\aZ x.a p.vars.length
 bump:x.op=52->(x.a = -1\/iQ f x.a)/\aZ x.b p.vars.length/\iQ f x.c
 cas:x.op=53->iQ f x.a/\aZ x.b p.vars.length/\iQ f x.c/\iQ f x.n
 lock:x.op=55\/x.op=56->0<=x.a/\x.a<p.locks
 try_:x.op=57->iQ f x.a/\0<=x.b/\x.b<p.locks
 send:x.op=58->aZ x.a p.chans.length/\iQ f x.b
 recv:x.op=59->(x.a = -1\/iQ f x.a)/\aZ x.b p.chans.length/\(x.c = -1\/iQ f x.c)
 close:x.op=60->aZ x.a p.chans.length
 sel:x.op=61->aZ x.a f.sels.length
 spawn:x.op=62->(x.a = -1\/iQ f x.a)/\aZ x.b p.funcs.length/\(∀ g,g=p.funcs.getD x.b.toNat lG->(g.params=0/\x.c=0)\/0<g.params/\0<=x.c/\(x.c<=IntKind.i64.wrap (f.regs - g.params)))
theorem Hy {p:aj} {f:fV} {x:iF}:∀ {n:Nat},qx p f x n=0 -> ∀ k,k<n->aS p f (rD x.op k) ((EO x).getD k 0) x=0
 | n+1,h,k,hk=>by rw [qx]at h;split at h;{rename_i a;exact absurd h a};rename_i b;by_cases e:k=n;{subst e;exact h};exact Hy (by simpa using b) k (by omega)
theorem EZ {f:fV} {n:Int} (h:dY f n=0):iQ f n:=by
 unfold dY at h;split at h
 ·rename_i hw;simpa [dF,iQ]using hw
 cases h
theorem JZ {f:fV} {n:Int} (h:dV f n=0):aZ n f.code.length:=by
 unfold dV at h;split at h
 ·rename_i hw;simpa [dF,aZ]using hw
 cases h
theorem Yd {p:aj} {n:Int} (h:dA p n=0):aZ n p.vars.length:=by
 unfold dA at h;split at h
 ·rename_i hw;simpa [dF,aZ]using hw
 cases h
theorem YQ {f:fV} {n k:Int} (h:kE f n k=0):(k=0/\n=0)\/k<0\/(0<k/\0<=n/\n<=IntKind.i64.wrap (f.regs - k)):=by
 unfold kE at h;split at h
 ·cases h
 rename_i a;simp at a;omega
theorem kT {p:aj} {f:fV} {x:iF} {c n:Int} (h:aS p f c n x=0) :
 (c=111->n = -1\/iQ f n)/\(c=114->iQ f n)/\(c=119->iQ f n)/\(c=118->aZ n p.vars.length)/\(c=97->aZ n p.vars.length)/\(c=108->0<=n/\n<p.locks)/\(c=99->aZ n p.chans.length) /\
 (c=115->aZ n f.sels.length)/\(c=102->aZ n p.funcs.length)/\(c=116->aZ n f.code.length)/\(c=112->kE f n (p.funcs.getD x.b.toNat lG).params=0):=by
 refine ⟨?_,?_,?_,?_,?_,?_,?_,?_,?_,?_,?_⟩ <;> (intro e;subst e;simp [aS]at h)
 ·by_cases e:n = -1
  ·exact .inl e
  ·exact .inr (EZ (by simpa [e]using h))
 ·exact EZ h
 ·exact EZ h
 ·exact qP h
 ·exact Yd h
 ·exact qP h
 ·exact qP h
 ·exact qP h
 ·exact qP h
 ·exact JZ h
 ·exact h
theorem aaG {p:aj} {f:fV} {x:iF} (hf:∀ g∈p.funcs,0<=g.params) (h:ji p f x=0):C9 p f x:=by
 have o:jR x.op≠[]:=by intro e;simp [ji,e]at h
 have he:qx p f x 4=0:=by unfold ji at h;rw [Y0 o]at h;split at h;{cases h};exact h
 have hl:∀ k,k<4->rD x.op k=(((jR x.op)[k]?.getD 0).toNat:Nat):=λk _=>Xe _ _;have H:∀ k,k<4 -> ∀ c:Int,(((jR x.op)[k]?.getD 0).toNat:Nat)=c->aS p f c ((EO x).getD k 0) x=0:=λk hk c hc=>by have:=Hy he k hk;rwa [hl k hk,hc]at this
 have y:(1<=x.op/\x.op<=36)\/(40<=x.op/\x.op<=45)\/(50<=x.op/\x.op<=65):=by revert o;refine Ci (Q:=λl=>l≠[]->_) x.op ?_ ?_ ?_ ?_ ?_ ?_ ?_ ?_ ?_ ?_ ?_ ?_ ?_ ?_ ?_ ?_ ?_ ?_ ?_ ?_ ?_;all_goals first | (intro i _;omega) | (intro _ i;exact absurd rfl i)
 have d:=λc hc=>H 0 (by decide) c hc;have i:=λc hc=>H 1 (by decide) c hc;have j:=λc hc=>H 2 (by decide) c hc;have s:=λc hc=>H 3 (by decide) c hc;have t:(EO x).getD 0 0=x.a:=rfl;have u:(EO x).getD 1 0=x.b:=rfl;have v:(EO x).getD 2 0=x.c:=rfl;have w:(EO x).getD 3 0=x.n:=rfl;rw [t]at d;rw [u]at i;rw [v]at j;rw [w]at s;have F1:1<=x.op/\x.op<=15->jR x.op=[114,114,45,45]:=λh=>by rw [jR,aaI h]
 have r:16<=x.op/\x.op<=36->jR x.op=[114,114,114,45]:=λh=>by rw [jR,Y0 (by omega),aaI h]
 have R:=λn h=>(kT (p:=p) (f:=f) (x:=x) (c:=114) (n:=n) h).2.1 rfl;refine ⟨?_,?_,?_,?_,?_,?_,?_,?_,?_,?_,?_,?_,?_,?_,?_,?_,?_,?_⟩
 ·simp [nK,yh];omega
 ·intro h;rcases Int.lt_or_le 15 x.op with q | q;{have e:=r (by omega);exact ⟨R _ (d 114 (by rw [e];rfl)),R _ (i 114 (by rw [e];rfl))⟩};have e:=F1 (by omega);exact ⟨R _ (d 114 (by rw [e];rfl)),R _ (i 114 (by rw [e];rfl))⟩
 ·intro h;have e:=r h;exact R _ (j 114 (by rw [e];rfl))
 ·rintro (h | h | h | h | h) <;> exact R _ (d 114 (by rw [h];rfl))
 ·intro h;exact ⟨R _ (d 114 (by rw [h];rfl)),R _ (i 114 (by rw [h];rfl))⟩
 ·intro h;exact (kT (d 116 (by rw [h];rfl))).2.2.2.2.2.2.2.2.2.1 rfl
 ·intro h;exact (kT (i 116 (by rw [h];rfl))).2.2.2.2.2.2.2.2.2.1 rfl
 ·intro h;exact ⟨R _ (d 114 (by rw [h];rfl)),(kT (i 118 (by rw [h];rfl))).2.2.2.1 rfl⟩
 ·rintro (h | h);{exact ⟨R _ (i 114 (by rw [h];rfl)),(kT (d 118 (by rw [h];rfl))).2.2.2.1 rfl⟩};exact ⟨R _ (i 114 (by rw [h];rfl)),(kT (d 97 (by rw [h];rfl))).2.2.2.2.1 rfl⟩
 ·intro h;exact ⟨(kT (d 111 (by rw [h];rfl))).1 rfl,(kT (i 97 (by rw [h];rfl))).2.2.2.2.1 rfl,R _ (j 114 (by rw [h];rfl))⟩
 ·intro h;exact ⟨R _ (d 114 (by rw [h];rfl)),(kT (i 97 (by rw [h];rfl))).2.2.2.2.1 rfl,R _ (j 114 (by rw [h];rfl)),(kT (s 119 (by rw [h];rfl))).2.2.1 rfl⟩
 ·rintro (h | h) <;> exact (kT (d 108 (by rw [h];rfl))).2.2.2.2.2.1 rfl
 ·intro h;exact ⟨R _ (d 114 (by rw [h];rfl)),(kT (i 108 (by rw [h];rfl))).2.2.2.2.2.1 rfl⟩
 ·intro h;exact ⟨(kT (d 99 (by rw [h];rfl))).2.2.2.2.2.2.1 rfl,R _ (i 114 (by rw [h];rfl))⟩
 ·intro h;exact ⟨(kT (d 111 (by rw [h];rfl))).1 rfl,(kT (i 99 (by rw [h];rfl))).2.2.2.2.2.2.1 rfl,(kT (j 111 (by rw [h];rfl))).1 rfl⟩
 ·intro h;exact (kT (d 99 (by rw [h];rfl))).2.2.2.2.2.2.1 rfl
 ·intro h;exact (kT (d 115 (by rw [h];rfl))).2.2.2.2.2.2.2.1 rfl
 intro h;have hb:=(kT (i 102 (by rw [h];rfl))).2.2.2.2.2.2.2.2.1 rfl;refine ⟨(kT (d 111 (by rw [h];rfl))).1 rfl,hb,λg hg=>?_⟩;have hp:=YQ ((kT (j 112 (by rw [h];rfl))).2.2.2.2.2.2.2.2.2.2 rfl);rw [<- hg]at hp;(have hm:g∈p.funcs:=by(have m:x.b.toNat<p.funcs.length:=by have:=hb.1;have:=hb.2;omega);rw [hg,aaS,aaF m];exact abZ m);have:=hf g hm;omega
structure ZR (p:aj) (f:fV) (c:zf):Prop where
 chan:aZ c.chan p.chans.length
 reg:(c.send=true\/c.reg ≠ -1)->iQ f c.reg
 cap:c.send=true->p.chans.getD c.chan.toNat 0≠0
 to:aZ c.to f.code.length
structure ZA (p:aj) (f:fV) (s:tN):Prop where
 len:1<=s.cases.length/\s.cases.length<=4
 case:∀ c∈s.cases,ZR p f c
 els:s.els ≠ -1->aZ s.els f.code.length
structure wG (p:aj) (f:fV):Prop where
 regs:0<=f.regs/\f.regs<=8
 pars:0<=f.params/\f.params<=f.regs
 code:1<=f.code.length/\f.code.length<=64
 sels:f.sels.length<=4
 ins:∀ x∈f.code,C9 p f x
 sel:∀ s∈f.sels,ZA p f s
 last:uh (yc f)=true
structure qy (p:aj):Prop where
 vars:p.vars.length<=8
 locks:0<=p.locks/\p.locks<=4
 chans:p.chans.length<=4
 caps:∀ n∈p.chans,0<=n/\n<=4
 funcs:1<=p.funcs.length/\p.funcs.length<=8
 fn:∀ f∈p.funcs,wG p f
 main:(aV p 0).params=0
theorem Zy {p:aj} {f:fV} {c:zf} (h:oM p f c=0):ZR p f c:=by
 unfold oM at h;split at h
 ·cases h
 rename_i a;split at h;{cases h};rename_i b;split at h;{cases h};rename_i d;refine ⟨qP (by simpa using a),λg=>?_,λi=>?_,JZ h⟩;{refine EZ (Decidable.byContradiction λhn=>b ⟨?_,hn⟩);rw [acM,bne_iff_ne];exact g};intro e;exact d (by rw [i,e];rfl)
theorem aah {p:aj} {f:fV} {s:tN} (hb:EN s=true) (h:Dn p f s=0):ZA p f s:=by
 unfold Dn at h;split at h
 ·rename_i a;exact absurd h a
 rename_i b;refine ⟨by simp [EN]at hb;omega,λc hc=>Zy (vX (by simpa using b) c hc),λa=>?_⟩;unfold y5 at h;rw [aaI a]at h;exact JZ h
theorem jZ {p:aj} (h:dX p=true):qy p:=by
 have o:(o7 p).1=0:=by simpa [dX]using h
 unfold o7 at o;split at o
 ·rename_i u;exact absurd o u
 rename_i hw;have hw:kS p=0:=by simpa using hw
 unfold kS at hw;split at hw
 ·cases hw
 rename_i r;have hsz:p.vars.length<=8/\(0<=p.locks/\p.locks<=4)/\p.chans.length<=4/\(1<=p.funcs.length/\p.funcs.length<=8):=by simp [szB]at r;omega
 have t:=zO o;have a:∀ j,j<p.funcs.length->fU (aV p j) (j==0)=true/\qU p (aV p j)=0/\AA (ji p (aV p j)) (aV p j).code=0/\uh (yc (aV p j))=true:=λj b=>by have:=t j (by omega) (by omega);unfold tu at this;split at this;{cases this};rename_i q;split at this;{rename_i i;exact absurd this i};rename_i i;split at this;{rename_i l;exact absurd this l};rename_i l;split at this;{rename_i w;exact ⟨by simpa using q,by simpa using i,by simpa using l,w⟩};cases this
 have c:∀ j,j<p.funcs.length->Ph (aV p j) (j==0)=true/\sQ (aV p j) (aV p j).sels.length=true:=λj b=>by have:=(a j b).1;simpa [fU]using this
 have d:∀ f∈p.funcs,∃ j,j<p.funcs.length/\f=aV p j:=λf hf=>by obtain ⟨j,b,e⟩:=List.getElem_of_mem hf;exact ⟨j,b,by simp [aV,b,e]⟩
 have m:∀ g∈p.funcs,0<=g.params:=λg hg=>by obtain ⟨j,b,rfl⟩:=d g hg;have:=qM.1 (c j b).1;omega
 refine ⟨hsz.1,hsz.2.1,hsz.2.2.1,λn hn=>?_,hsz.2.2.2,λf hf=>?_,?_⟩
 ·have:=vX hw n hn;unfold EC at this;split at this;{cases this};rename_i q;simp at q;omega
 ·obtain ⟨j,b,rfl⟩:=d f hf;have q:=qM.1 (c j b).1;have i:=a j b;refine ⟨by omega,by omega,by omega,by omega,λx hx=>aaG m (vX i.2.2.1 x hx),λs r=>?_,i.2.2.2⟩;obtain ⟨k,hk,e⟩:=List.getElem_of_mem r;have l:=Bh (c j b).2 k hk;(have v:(aV p j).sels.getD k wP=s:=by rw [aaS,aaF hk,e];rfl);rw [v]at l;exact aah l (vX i.2.1 s r)
 have:=qM.1 (c 0 (by omega)).1;have y:¬ ((0==0)=true/\(aV p 0).params>0):=this.2.2.2.2.1;have z:¬ (aV p 0).params>0:=λh=>y ⟨rfl,h⟩;omega
def l9 (w o:Int):Bool:=decide ((w=1/\o=44)\/(w=2/\(o=19\/o=20))\/(w=3/\25<=o/\o<=27)\/(w=4/\(o=58\/o=61))\/(w=5/\o=60)\/(w=6/\o=56)\/(w=7/\o=63)\/(w=8/\o=62))
theorem aaD (w o:Int):AC Tryz.prog T aJ 237 [.int w,.int o] [] (.bool (l9 w o)) []:=by
 refine aX Tryz.func237 ?_;refine sg rfl (sq (sq (rg [] rfl ?_)));refine bk (sq (rg [] rfl ?_));refine cd rfl (λe=>?_) (λe=>?_)
 ·refine sg rfl (rX ?_);refine fin1 hT (by rfl) ?_;(try simp only [fM,band]);rw [abT];simp [l9]at *;omega
 refine sg rfl (cd rfl (λf=>?_) (λf=>?_));{refine sg rfl (rX ?_);refine fin1 hT (by rfl) ?_;(try simp only [fM,band]);rw [abT];simp [l9]at *;omega};refine sg rfl (cd rfl (λg=>?_) (λg=>?_));{refine sg rfl (rX ?_);refine fin1 hT (by rfl) ?_;(try simp only [fM,band]);rw [abT];simp [l9]at *;omega};refine sg rfl (cd rfl (λh=>?_) (λh=>?_));{refine sg rfl (rX ?_);refine fin1 hT (by rfl) ?_;(try simp only [fM,band]);rw [abT];simp [l9]at *;omega};refine sg rfl (cd rfl (λa=>?_) (λa=>?_));{refine sg rfl (rX ?_);refine fin1 hT (by rfl) ?_;(try simp only [fM,band]);rw [abT];simp [l9]at *;omega};refine sg rfl (cd rfl (λb=>?_) (λb=>?_));{refine sg rfl (rX ?_);refine fin1 hT (by rfl) ?_;(try simp only [fM,band]);rw [abT];simp [l9]at *;omega};refine sg rfl (cd rfl (λc=>?_) (λc=>?_));{refine sg rfl (rX ?_);refine fin1 hT (by rfl) ?_;(try simp only [fM,band]);rw [abT];simp [l9]at *;omega};refine sg rfl (cd rfl (λd=>?_) (λd=>?_));{refine sg rfl (rX ?_);refine fin1 hT (by rfl) ?_;(try simp only [fM,band]);rw [abT];simp [l9]at *;omega};refine sk (sq (rg [] rfl ?_));refine rX ?_;refine fin1 hT (by rfl) ?_;(try simp only [fM,band]);rw [abT];simp [l9]at *;omega
theorem Qs (w o:Int):AC Tryz.prog T aJ 200 [.int o,.int w] [] (.bool (l9 w o)) []:=by
 refine aX Tryz.func200 ?_;refine sg rfl (sq (sq (rg [] rfl ?_)));refine bk (sq (rg [] rfl ?_));refine cd rfl (λe=>?_) (λe=>?_)
 ·refine sg rfl (rX ?_);refine fin1 hT (by rfl) ?_;(try simp only [fM,band]);rw [abT];simp [l9]at *;omega
 refine sg rfl (cd rfl (λf=>?_) (λf=>?_));{refine sg rfl (rX ?_);refine fin1 hT (by rfl) ?_;(try simp only [fM,band]);rw [abT];simp [l9]at *;omega};refine sg rfl (cd rfl (λg=>?_) (λg=>?_));{refine sg rfl (rX ?_);refine fin1 hT (by rfl) ?_;(try simp only [fM,band]);rw [abT];simp [l9]at *;omega};refine sg rfl (cd rfl (λh=>?_) (λh=>?_));{refine sg rfl (rX ?_);refine fin1 hT (by rfl) ?_;(try simp only [fM,band]);rw [abT];simp [l9]at *;omega};refine sg rfl (cd rfl (λa=>?_) (λa=>?_));{refine sg rfl (rX ?_);refine fin1 hT (by rfl) ?_;(try simp only [fM,band]);rw [abT];simp [l9]at *;omega};refine sg rfl (cd rfl (λb=>?_) (λb=>?_));{refine sg rfl (rX ?_);refine fin1 hT (by rfl) ?_;(try simp only [fM,band]);rw [abT];simp [l9]at *;omega};refine sg rfl (cd rfl (λc=>?_) (λc=>?_));{refine sg rfl (rX ?_);refine fin1 hT (by rfl) ?_;(try simp only [fM,band]);rw [abT];simp [l9]at *;omega};refine sg rfl (cd rfl (λd=>?_) (λd=>?_));{refine sg rfl (rX ?_);refine fin1 hT (by rfl) ?_;(try simp only [fM,band]);rw [abT];simp [l9]at *;omega};refine sk (sq (rg [] rfl ?_));refine rX ?_;refine fin1 hT (by rfl) ?_;(try simp only [fM,band]);rw [abT];simp [l9]at *;omega
theorem Jh (op:Int):AC Tryz.prog T aJ 204 [.int op] [] (.bool (nK op)) []:=by
 refine aX Tryz.func204 ?_;refine sg rfl (sg rfl ?_);refine rX ?_;exact fin1 hT (by rfl) (by rw [band,band,fM];rfl)
theorem Na (op:Int):AC Tryz.prog T aJ 235 [.int op] [] (.bool (yh op)) []:=by
 refine aX Tryz.func235 ?_;refine sg rfl (sg rfl ?_);refine rX ?_;exact fin1 hT (by rfl) (by rw [band];rfl)
theorem Dk (p:aj):AC Tryz.prog T aJ 141 [ak p] [] (.bool (dX p)) []:=by
 refine aX Tryz.func141 ?_;refine sg rfl (sq (rgs [CG.pure (y7 p)] rfl ?_ ?_))
 ·have a:=Dy p;exact au
 exact sg rfl (WP.ret (fin1 hT rfl rfl))
abbrev bM (p:aj) (g:jm):fV:=p.funcs.getD g.func.toNat lG
abbrev insOf (p:aj) (g:jm):iF:=(bM p g).code.getD g.pc.toNat nM
def oL (p:aj) (g:jm):Prop:=(1<=g.status/\g.status<=5)/\aZ g.func p.funcs.length/\aZ g.pc (bM p g).code.length /\
 (∀ k:Nat,k<8->g.regs.getD k 0=0\/((k:Int)<(bM p g).regs/\g.status≠3/\g.status≠4)) /\
 (g.status=4->l9 g.why (insOf p g).op=true)/\(g.status≠4->g.why=0)/\(g.status=3->(insOf p g).op=45)/\(g.status=5->nK (insOf p g).op=true)
instance (n:Int) (m:Nat):Decidable (aZ n m):=by unfold aZ;infer_instance
instance (p:aj) (g:jm):Decidable (oL p g):=by unfold oL;infer_instance
theorem Zn (p:aj) (g:jm):AC Tryz.prog T aJ 189 [ak p,cZ g] [] (.bool (decide (oL p g))) []:=by
 refine aX Tryz.func189 ?_;refine sg rfl (sq (sq ?_));refine WP.ent (st':=aN [(2,.rp 26 (ak p)),(3,.rp 59 (cZ g))] []) (em [(.s 2 0,1),(.s 3 0,1)] ⟨sF,sF,tt⟩ ⟨rq,rq,tt⟩ trivial) ?_;refine rg [] rfl (cd rfl (λn=>?_) (λn=>?_))
 ·simp only [fM]at n;refine sg rfl (rX ?_);refine fin1 hT (by rfl) (ads (ab3 λh=>?_));have w:=h.1;have d:=h.2.1;unfold aZ at d;simp [-List.getD_eq_getElem?_getD]at n;omega
 simp only [fM]at n;(have v:(1<=g.status/\g.status<=5)/\aZ g.func p.funcs.length:=by unfold aZ;simp [-List.getD_eq_getElem?_getD]at n;omega);refine sk (sq (rgs [] rfl ?_ ?_));{have:=v.2;unfold aZ at this;simp [-List.getD_eq_getElem?_getD,ay,under];omega};refine sq (sq ?_);refine WP.ent (st':=aN [(5,.rp 100 (jv (bM p g))),(2,.rp 26 (ak p)),(3,.rp 59 (cZ g))] []) (em [(.s 5 0,1)] ⟨sF,tt⟩ ⟨rq,cq,cq,tt⟩ trivial) ?_;refine rg [] rfl (cd rfl (λo=>?_) (λo=>?_));{simp only [fM]at o;refine sg rfl (rX ?_);refine fin1 hT (by rfl) (ads (ab3 λh=>?_));have d:=h.2.2.1;unfold aZ at d;simp [-List.getD_eq_getElem?_getD]at o;omega};simp only [fM]at o;(have hp:aZ g.pc (bM p g).code.length:=by unfold aZ;simp [-List.getD_eq_getElem?_getD]at o;omega);refine sk (sq (rg [] rfl ?_));refine sq (sq (rg [] rfl ?_));refine bk (WP.loop (α:=Nat) (λi=>aN [(3,.rp 59 (cZ g)),(5,.rp 100 (jv (bM p g))),(6,.bool (g.status==3||g.status==4)),(57,kX 52 8 .i64 g.regs),(58,.int i)] []) (λi=>i<=8 /\ ∀ k:Nat,k<i->g.regs.getD k 0=0\/((k:Int)<(bM p g).regs/\g.status≠3/\g.status≠4)) (λi=>8 - i) ?_ ?_);{refine ⟨0,?_,?_⟩;{exact ⟨abr _,λj x=>by omega⟩};refine eX ⟨cq,cq,⟨rfl,_,rfl,ah (by rw [fM])⟩,cq,cq,tt⟩ trivial};rintro i ⟨hi,hn⟩;refine sg rfl (sq ?_);refine cd rfl (λu=>?_) (λu=>?_);{(have c:i<8:=by simp [-List.getD_eq_getElem?_getD]at u;omega);refine sk (sq (bk (sq (rgs [] rfl ?_ ?_))));{simp [-List.getD_eq_getElem?_getD,ay,under];omega};refine sg rfl (cd rfl (λa=>?_) (λa=>?_));{simp only [fM,band]at a;refine sg rfl (rX ?_);refine fin1 hT (by rfl) (ads (ab3 λh=>?_));have d:=h.2.2.2.1 i c;simp [-List.getD_eq_getElem?_getD]at a;rcases d with d | d;{exact a.1 (by simpa using d)};have:=a.2;grind};simp only [fM,band]at a;refine sk (rg [] rfl ?_);refine ⟨i+1,?_,?_,?_⟩;{exact ⟨c,all_succ hn (by simp [-List.getD_eq_getElem?_getD]at a;by_cases e:g.regs.getD i 0=0;exact .inl e;exact .inr (by have:=a (by simpa using e);grind))⟩};{refine eX cX trivial};(try simp only []);first | omega | grind};(have c:i=8:=by simp [-List.getD_eq_getElem?_getD]at u;omega);subst c;(have fin:∀ b:Bool,(b=true↔(g.status=4->l9 g.why (insOf p g).op=true)/\(g.status≠4->g.why=0)/\(g.status=3->(insOf p g).op=45)/\(g.status=5->nK (insOf p g).op=true))->b=decide (oL p g):=λb hb=>by rw [abT,hb,decide_eq_true_iff];exact ⟨λh=>⟨v.1,v.2,hp,hn,h⟩,λh=>h.2.2.2.2⟩);refine xt (sq (rgs [] rfl ?_ ?_));{unfold aZ at hp;simp [-List.getD_eq_getElem?_getD,ay,under];omega};refine sq (sq (rg [] rfl ?_));refine bk (sq (rg [] rfl ?_));refine cd rfl (λf=>?_) (λf=>?_);{(have r:g.status=4:=by simpa using f);refine sq (rgs [CG.pure (.bool (l9 g.why (insOf p g).op))] rfl ?_ ?_);{exact aaD _ _};refine rX ?_;refine fin1 hT (by rfl) (fin _ ?_);simp [r]};(have r:g.status≠4:=by simpa using f);refine sg rfl (cd rfl (λl=>?_) (λl=>?_));{(have q:g.status=3:=by simpa using l);refine sg rfl (rX ?_);refine fin1 hT (by rfl) (fin _ ?_);simp only [band];simp [q]};(have q:g.status≠3:=by simpa using l);refine sg rfl (cd rfl (λm=>?_) (λm=>?_));{(have t:g.status=5:=by simpa using m);refine sq (rgs [CG.pure (.bool (nK (insOf p g).op))] rfl ?_ ?_);{have y:=Jh (insOf p g).op;exact au};refine rX ?_;refine fin1 hT (by rfl) (fin _ ?_);simp only [band];simp [t]};(have t:g.status≠5:=by simpa using m);refine sk (sq (rg [] rfl ?_));refine rX ?_;refine fin1 hT (by rfl) (fin _ ?_);simp [r,q,t]
def qm (p:aj) (s:bW) (g c:Int):Prop:=0<=g/\g<s.count/\(goI s g).status=2/\(insOf p (goI s g)).op=58/\(insOf p (goI s g)).a=c
instance (p:aj) (s:bW) (g c:Int):Decidable (qm p s g c):=by unfold qm;infer_instance
def Xn (p:aj) (s:bW):Prop:=s.count<=6 /\ ∀ k:Nat,(k:Int)<s.count->oL p (s.gos.getD k go0)
theorem Vf (p:aj) (s:bW) (g c:Int) (hg:Xn p s):AC Tryz.prog T aJ 238 [ak p,encS s,.int g,.int c] [] (.bool (decide (qm p s g c))) []:=by
 refine aX Tryz.func238 ?_;refine sg rfl (sq (sq ?_));refine WP.ent (st':=aN [(4,.rp 26 (ak p)),(5,.rp 62 (encS s)),(2,.int g),(3,.int c)] []) (em [(.s 4 0,1),(.s 5 0,1)] ⟨sF,sF,tt⟩ ⟨rq,rq,cq,cq,tt⟩ trivial) ?_;refine rgs [] rfl ?_ ?_
 ·have:=hg.1;simp [-List.getD_eq_getElem?_getD,ay,under];omega
 refine cd rfl (λd=>?_) (λd=>?_)
 ·simp only [fM]at d;refine sg rfl (rX ?_);refine fin1 hT (by rfl) (ads (ab3 λh=>?_));obtain ⟨a,b,c,_⟩:=h;simp [-List.getD_eq_getElem?_getD]at d;grind
 simp only [fM]at d;(have i:0<=g/\g<s.count/\(goI s g).status=2:=by simp [-List.getD_eq_getElem?_getD]at d;grind);have hf:=hg.2 g.toNat (by omega);have j:=hg.1;refine sk (sq (drs [] rfl ?_ ?_));{have e:=hf.2.1;have f:=hf.2.2.1;simp only [aZ,bM]at e f;simp [-List.getD_eq_getElem?_getD,ay,under];omega};refine sg rfl (rX ?_);refine fin1 hT (by rfl) ?_;simp only [band];rw [abT,decide_eq_true_iff];unfold qm;simp only [i,true_and];rw [aa3,ab9,ab9]
abbrev uX (p:aj) (c:Nat):Int:=p.chans.getD c 0
abbrev bG (s:bW) (c:Nat):iM:=s.chans.getD c AU
def tJ (p:aj) (s:bW) (c:Nat):Prop:=((0<=(bG s c).len/\(bG s c).len<=uX p c)/\(0<=(bG s c).offer/\(bG s c).offer<=3)/\((bG s c).offer≠0->uX p c=0)) /\
 (∀ k:Nat,k<4->(bG s c).len<=k->(bG s c).buf.getD k 0=0)/\((bG s c).offer=0->(bG s c).frm=0/\(bG s c).val=0) /\
 ((bG s c).offer=1->(bG s c).closed=false)/\((bG s c).offer=2\/(bG s c).offer=3->(bG s c).val=0)/\((bG s c).offer=3->(bG s c).closed=true)/\((bG s c).offer≠0->qm p s (bG s c).frm c)
instance (p:aj) (s:bW) (c:Nat):Decidable (tJ p s c):=by unfold tJ;infer_instance
def uf (p:aj) (s:bW) (g:Int):Nat->Nat
 | 0=>0
 | c+1=>uf p s g c+if c<p.chans.length/\(bG s c).offer≠0/\(bG s c).frm=g then 1 else 0
theorem Kv (p:aj) (s:bW) (g:Int):∀ c,uf p s g c<=c
 | 0=>aa1 _
 | c+1=>by have:=Kv p s g c;rw [uf];split <;> omega
def xk (p:aj) (s:bW) (c:Nat):List Int:=(List.range 6).map λg=>(uf p s (g:Nat) c:Int)
theorem WR (p:aj) (s:bW) (c:Nat):(xk p s c).length=6:=by simp [xk]
theorem Kw (p:aj) (s:bW) (c:Nat) {g:Nat} (h:g<6):(xk p s c).getD g 0=uf p s (g:Nat) c:=by simp [xk,h]
theorem Jl {p:aj} {s:bW} {c:Nat} (h:¬ (c<p.chans.length/\(bG s c).offer≠0)):xk p s (c+1)=xk p s c:=by
 unfold xk;refine List.map_congr_left λg hg=>?_;rw [uf,Y0 (λe=>h ⟨e.1,e.2.1⟩),acV]
theorem WQ {p:aj} {s:bW} {c:Nat} (h:c<p.chans.length/\(bG s c).offer≠0) (hf:0<=(bG s c).frm/\(bG s c).frm<6):(xk p s c).set (bG s c).frm.toNat (uf p s (bG s c).frm c+1)=xk p s (c+1):=by
 refine List.ext_getElem (by simp [xk]) λi d b=>?_;have hi:i<6:=by simpa [xk]using b
 rw [List.getElem_set];split
 ·rename_i e;simp only [xk,adL,ady];(have a:((i:Nat):Int)=(bG s c).frm:=by omega);rw [a,uf,aaI ⟨h.1,h.2,rfl⟩];omega
 rename_i e;simp only [xk,adL,ady];rw [uf,Y0 (λk=>e (by rw [k.2.2];omega)),acV]
def JX (p:aj) (s:bW) (k:Nat):Prop:=p.vars.length<=k->s.vars.getD k 0=0
def Dz (p:aj) (s:bW) (k:Nat):Prop:=0<=s.owner.getD k 0/\s.owner.getD k 0<=s.count/\(s.owner.getD k 0≠0->(k:Int)<p.locks)
def Ce (p:aj) (s:bW) (k:Nat):Prop:=((k:Int)<s.count->oL p (s.gos.getD k go0))/\(s.count<=k->s.gos.getD k go0=go0)
def Lp (p:aj) (s:bW) (k:Nat):Prop:=(k<p.chans.length->tJ p s k)/\(p.chans.length<=k->bG s k=AU)
def FK (p:aj) (s:bW) (k:Nat):Prop:=(s.gos.getD k go0).status=2->uf p s k 4=1
instance (p:aj) (s:bW) (k:Nat):Decidable (JX p s k):=by unfold JX;infer_instance
instance (p:aj) (s:bW) (k:Nat):Decidable (Dz p s k):=by unfold Dz;infer_instance
instance (p:aj) (s:bW) (k:Nat):Decidable (Ce p s k):=by unfold Ce;infer_instance
instance (p:aj) (s:bW) (k:Nat):Decidable (Lp p s k):=by unfold Lp;infer_instance
instance (p:aj) (s:bW) (k:Nat):Decidable (FK p s k):=by unfold FK;infer_instance
def dG (p:aj) (s:bW):Prop:=dX p=true/\(1<=s.count/\s.count<=6)/\(∀ k,k<8->JX p s k)/\(∀ k,k<4->Dz p s k)/\(∀ k,k<6->Ce p s k)/\(∀ k,k<4->Lp p s k)/\(∀ k,k<6->FK p s k)
instance (p:aj) (s:bW):Decidable (dG p s):=by unfold dG;infer_instance
theorem QD (p:aj) (s:bW) (c:Nat) (hp:qy p) (hg:Xn p s) (hc:c<p.chans.length):AC Tryz.prog T aJ 190 [ak p,encS s,.int c] [] (.bool (decide (tJ p s c))) []:=by
 refine aX Tryz.func190 ?_;have x:c<4:=acC hc hp.chans;have u:0<=uX p c/\uX p c<=4:=hp.caps _ (by simp [uX,hc]);refine sg rfl (sq ?_);refine WP.ent (st':=aN [(3,.rp 26 (ak p)),(4,.rp 62 (encS s)),(2,.int c)] []) (em [(.s 3 0,1),(.s 4 0,1)] ⟨sF,sF,tt⟩ ⟨rq,rq,cq,tt⟩ trivial) ?_;refine rgs [] rfl ?_ ?_
 ·simp [-List.getD_eq_getElem?_getD,ay,under];omega
 refine sq (sq ?_);refine WP.ent (st':=aN [(7,.rp 56 (dS (bG s c))),(2,.int c),(3,.rp 26 (ak p)),(4,.rp 62 (encS s))] []) (em [(.s 7 0,1)] ⟨sF,tt⟩ ⟨rq,cq,cq,cq,tt⟩ trivial) ?_;refine drs [] rfl ?_ ?_
 ·simp [-List.getD_eq_getElem?_getD,ay,under];omega
 refine cd rfl (λf=>?_) (λf=>?_)
 ·simp only [fM,band]at f;refine sg rfl (rX ?_);refine fin1 hT (by rfl) (ads (ab3 λh=>?_));have n:=h.1;simp [-List.getD_eq_getElem?_getD]at f n;grind
 ·simp only [fM,band]at f
  have w:(0<=(bG s c).len/\(bG s c).len<=uX p c)/\(0<=(bG s c).offer/\(bG s c).offer<=3)/\((bG s c).offer≠0->uX p c=0):=by simp [-List.getD_eq_getElem?_getD]at f ⊢;grind
  have hlen:0<=(bG s c).len/\(bG s c).len<=4:=by omega
  refine sk (sq (sq (rgs [] rfl ?_ ?_)))
  ·simp [-List.getD_eq_getElem?_getD,ay,under,qC,tX,capEq];omega
  refine bk (WP.loop (α:=Nat) (λi=>aN [(2,.int c),(3,.rp 26 (ak p)),(4,.rp 62 (encS s)),(7,.rp 56 (dS (bG s c))),(53,.row 2 true (4 - (bG s c).len).toNat (λj => .int ((bG s c).buf.getD ((bG s c).len.toNat+j) 0))),(54,.int (4 - (bG s c).len).toNat),(55,.int i)] []) (λi=>i<=(4 - (bG s c).len).toNat /\ ∀ k:Nat,k<i->(bG s c).buf.getD ((bG s c).len.toNat+k) 0=0) (λi=>8 - i) ?_ ?_)
  ·refine ⟨0,?_,?_⟩;{exact ⟨abr _,λj hj=>by omega⟩};refine eX cX trivial
  ·rintro i ⟨hi,hn⟩
   refine sg rfl (sq ?_)
   refine cd rfl (λo=>?_) (λo=>?_)
   ·(have m:i<(4 - (bG s c).len).toNat:=by simp [-List.getD_eq_getElem?_getD]at o;omega);refine sk (sq (bk (sq (rgs [] rfl ?_ ?_))));{simp [-List.getD_eq_getElem?_getD,ay,under];omega};refine sg rfl (cd rfl (λg=>?_) (λg=>?_));{refine sg rfl (rX ?_);refine fin1 hT (by rfl) (ads (ab3 λh=>?_));have n:=h.2.1 ((bG s c).len.toNat+i) (by omega) (by omega);simp [-List.getD_eq_getElem?_getD]at g;exact g n};refine sk (rg [] rfl ?_);refine ⟨i+1,?_,?_,?_⟩;{exact ⟨m,all_succ hn (by simp [-List.getD_eq_getElem?_getD]at g;exact g)⟩};{refine eX cX trivial};(try simp only []);first | omega | grind
   ·have m:i=(4 - (bG s c).len).toNat:=by simp [-List.getD_eq_getElem?_getD]at o;omega
    have l:∀ k:Nat,k<4->(bG s c).len<=k->(bG s c).buf.getD k 0=0:=λk y z=>by have:=hn (k - (bG s c).len.toNat) (by omega);rwa [show (bG s c).len.toNat+(k - (bG s c).len.toNat)=k by omega]at this
    have fin:∀ b:Bool,(b=true↔((bG s c).offer=0->(bG s c).frm=0/\(bG s c).val=0) /\
     ((bG s c).offer=1->(bG s c).closed=false)/\((bG s c).offer=2\/(bG s c).offer=3->(bG s c).val=0)/\((bG s c).offer=3->(bG s c).closed=true)/\((bG s c).offer≠0->qm p s (bG s c).frm c))->b=decide (tJ p s c):=λb hb=>by
     rw [abT,hb,decide_eq_true_iff]
     exact ⟨λh=>⟨w,l,h⟩,λh=>h.2.2⟩
    have hw:=Vf p s (bG s c).frm c hg
    refine xt (sq (sq (rg [] rfl ?_)))
    refine bk (sq (rg [] rfl ?_))
    refine cd rfl (λa=>?_) (λa=>?_)
    ·(have q:(bG s c).offer=0:=by simp [-List.getD_eq_getElem?_getD]at a;exact a);refine sg rfl (rX ?_);refine fin1 hT (by rfl) (fin _ ?_);simp only [band];simp [-List.getD_eq_getElem?_getD,q]
    (have q:(bG s c).offer≠0:=by simp [-List.getD_eq_getElem?_getD]at a;exact a)
    refine sg rfl (cd rfl (λd=>?_) (λd=>?_));{(have r:(bG s c).offer=1:=by simp [-List.getD_eq_getElem?_getD]at d;exact d);refine sq (rgs [CG.pure (.bool (decide (qm p s (bG s c).frm c)))] rfl ?_ ?_);{exact au};refine rX ?_;refine fin1 hT (by rfl) (fin _ ?_);simp only [band];simp [-List.getD_eq_getElem?_getD,r]};(have r:(bG s c).offer≠1:=by simp [-List.getD_eq_getElem?_getD]at d;exact d);refine sg rfl (cd rfl (λe=>?_) (λe=>?_));{(have t:(bG s c).offer=2:=by simp [-List.getD_eq_getElem?_getD]at e;exact e);refine sq (rgs [CG.pure (.bool (decide (qm p s (bG s c).frm c)))] rfl ?_ ?_);{exact au};refine rX ?_;refine fin1 hT (by rfl) (fin _ ?_);simp only [band];simp [-List.getD_eq_getElem?_getD,t]};(have t:(bG s c).offer≠2:=by simp [-List.getD_eq_getElem?_getD]at e;exact e);(have v:(bG s c).offer=3:=by omega);refine sk (sq (rgs [CG.pure (.bool (decide (qm p s (bG s c).frm c)))] rfl ?_ ?_));{exact au};refine rX ?_;refine fin1 hT (by rfl) (fin _ ?_);simp only [band];simp [-List.getD_eq_getElem?_getD,v];grind
theorem KP (p:aj) (g:jm) (hF:∀ f∈p.funcs,0<=f.regs):AC Tryz.prog T aJ 136 [ak p,cZ g] [] (.bool (decide (oL p g))) []:=by
 refine aX Tryz.func136 ?_;refine sg rfl (sq (sq ?_));refine WP.ent (st':=aN [(2,.rp 26 (ak p)),(3,.rp 59 (cZ g))] []) (em [(.s 2 0,1),(.s 3 0,1)] ⟨sF,sF,tt⟩ ⟨rq,rq,tt⟩ trivial) ?_;refine drs [] rfl ?_ ?_
 ·simp [-List.getD_eq_getElem?_getD,ay,under,fM];grind
 refine cd rfl (λl=>?_) (λl=>?_)
 ·simp only [fM]at l;refine sg rfl (rX ?_);refine fin1 hT (by rfl) (ads (ab3 λh=>?_));have h2:=h.1;have w:=h.2.1;have d:=h.2.2.1;simp only [aZ,bM]at w d;simp [-List.getD_eq_getElem?_getD]at l;omega
 simp only [fM]at l;(have m:((1<=g.status/\g.status<=5)/\aZ g.func p.funcs.length)/\aZ g.pc (bM p g).code.length:=by simp only [aZ,bM];simp [-List.getD_eq_getElem?_getD]at l;omega);have hb:=m.1.2;have v:=m.2;simp only [aZ,bM]at hb v;have hr:0<=(bM p g).regs:=hF _ (by rw [bM,aaS,aaF (by omega)];exact abZ _);refine sk (sq (rgs [] rfl ?_ ?_));{simp [-List.getD_eq_getElem?_getD,ay,under];omega};refine WP.seqJ (α:=Int) (λn=>aN [(2,.rp 26 (ak p)),(3,.rp 59 (cZ g)),(5,.int n)] []) (λn=>n=if g.status=3\/g.status=4 then 0 else (bM p g).regs) ?_ ?_;{refine sg rfl (cd rfl (λd=>?_) (λd=>?_));{refine rg [] rfl ⟨0,?_,?_⟩;{rw [aaI (by simp only [fM]at d;simpa using d)]};refine eX cX trivial};refine sk ⟨(bM p g).regs,?_,?_⟩;{rw [Y0 (by simp only [fM]at d;simpa using d)]};refine eX cX trivial};rintro n hn;refine sq (sq ?_);(have z:0<=n:=by rw [hn];split <;> omega);(have a:∀ (x:Int) (k:Nat),(x=0\/((k:Int)<(bM p g).regs/\g.status≠3/\g.status≠4))↔(x=0\/(k:Int)<n):=λx k=>by rw [hn];split <;> omega);refine rg [] rfl (bk ?_);refine WP.loop (α:=Nat) (λi=>aN [(2,.rp 26 (ak p)),(3,.rp 59 (cZ g)),(6,.int i)] []) (λi=>n<=i /\ ∀ k:Nat,k<i->k<8->(g.regs.getD k 0=0\/(k:Int)<n)) (λi=>8 - i) ?_ ?_;{refine ⟨n.toNat,?_,?_⟩;{exact ⟨by omega,λj hj _ => .inr (by omega)⟩};refine eX ⟨cq,cq,⟨rfl,_,rfl,ah (by simp [-List.getD_eq_getElem?_getD];omega)⟩,tt⟩ trivial};rintro i ⟨hi,hk⟩;refine sq (sq (rg [] rfl ?_));refine cd rfl (λt=>?_) (λt=>?_);{(have o:i<8:=by simp [-List.getD_eq_getElem?_getD]at t;omega);refine sk (sq (bk (sq (rgs [] rfl ?_ ?_))));{simp [-List.getD_eq_getElem?_getD,ay,under];omega};refine cd rfl (λq=>?_) (λq=>?_);{refine sg rfl (rX ?_);refine fin1 hT (by rfl) (ads (ab3 λh=>?_));have w:=(a _ _).1 (h.2.2.2.1 i o);simp [-List.getD_eq_getElem?_getD]at q;omega};refine sk (rg [] rfl ?_);refine ⟨i+1,?_,?_,?_⟩;{refine ⟨by omega,λk y u=>?_⟩;rcases acf k i with h | h;{exact hk k h u};(obtain rfl:k=i:=by omega);simp [-List.getD_eq_getElem?_getD]at q;exact .inl q};{refine eX cX trivial};(try simp only []);first | omega | grind};(have o:8<=i:=by simp [-List.getD_eq_getElem?_getD]at t;omega);have e:∀ k:Nat,k<8->g.regs.getD k 0=0\/((k:Int)<(bM p g).regs/\g.status≠3/\g.status≠4):=λk y=>(a _ _).2 (hk k (by omega) y);(have fin:∀ b:Bool,(b=true↔(g.status=4->l9 g.why (insOf p g).op=true)/\(g.status≠4->g.why=0)/\(g.status=3->(insOf p g).op=45)/\(g.status=5->nK (insOf p g).op=true))->b=decide (oL p g):=λb hb=>by rw [abT,hb,decide_eq_true_iff];exact ⟨λh=>⟨m.1.1,m.1.2,m.2,e,h⟩,λh=>h.2.2.2.2⟩);refine xt (sq (drs [] rfl ?_ ?_));{simp [-List.getD_eq_getElem?_getD,ay,under];omega};refine sq (sq (rg [] rfl ?_));refine cd rfl (λc=>?_) (λc=>?_);{(have r:g.status=4:=by simpa using c);refine sq (rgs [CG.pure (.bool (l9 g.why (insOf p g).op))] rfl ?_ ?_);{exact Qs _ _};refine rX ?_;refine fin1 hT (by rfl) (fin _ ?_);simp [r]};(have r:g.status≠4:=by simpa using c);have hq:=Dt (insOf p g).op;refine sk (sq (rgs [CG.pure (.bool (nK (insOf p g).op))] rfl ?_ ?_));{exact au};refine rX ?_;refine fin1 hT (by rfl) (fin _ ?_);simp only [band,fM];simp [r];grind
theorem MW (p:aj) (s:bW) (c:Nat) (hp:qy p) (hg:Xn p s) (hc:c<p.chans.length):AC Tryz.prog T aJ 137 [ak p,encS s,.int c] [] (.bool (decide (tJ p s c))) []:=by
 refine aX Tryz.func137 ?_;have a2:c<4:=acC hc hp.chans;have z:0<=uX p c/\uX p c<=4:=hp.caps _ (by simp [uX,hc]);refine sg rfl (sq ?_);refine WP.ent (st':=aN [(3,.rp 26 (ak p)),(4,.rp 62 (encS s)),(2,.int c)] []) (em [(.s 3 0,1),(.s 4 0,1)] ⟨sF,sF,tt⟩ ⟨rq,rq,cq,tt⟩ trivial) ?_;refine rgs [] rfl ?_ ?_
 ·simp [-List.getD_eq_getElem?_getD,ay,under];omega
 refine sq (sq ?_);refine WP.ent (st':=aN [(7,.rp 56 (dS (bG s c))),(2,.int c),(3,.rp 26 (ak p)),(4,.rp 62 (encS s))] []) (em [(.s 7 0,1)] ⟨sF,tt⟩ ⟨rq,cq,cq,cq,tt⟩ trivial) ?_;refine drs [] rfl ?_ ?_
 ·simp [-List.getD_eq_getElem?_getD,ay,under];omega
 refine cd rfl (λo=>?_) (λo=>?_)
 ·simp only [fM,band]at o;refine sg rfl (rX ?_);refine fin1 hT (by rfl) (ads (ab3 λh=>?_));have q:=h.1;simp [-List.getD_eq_getElem?_getD]at o q;grind
 ·simp only [fM,band]at o
  have h1:(0<=(bG s c).len/\(bG s c).len<=uX p c)/\(0<=(bG s c).offer/\(bG s c).offer<=3)/\((bG s c).offer≠0->uX p c=0):=by simp [-List.getD_eq_getElem?_getD]at o ⊢;grind
  have hlen:0<=(bG s c).len/\(bG s c).len<=4:=by omega
  refine sk (sq (sq (rg [] rfl ?_)))
  refine bk (WP.loop (α:=Nat) (λi=>aN [(2,.int c),(3,.rp 26 (ak p)),(4,.rp 62 (encS s)),(7,.rp 56 (dS (bG s c))),(8,.int i)] []) (λi=>(bG s c).len<=i /\ ∀ k:Nat,k<i->k<4->(bG s c).len<=k->(bG s c).buf.getD k 0=0) (λi=>8 - i) ?_ ?_)
  ·refine ⟨(bG s c).len.toNat,?_,?_⟩;{exact ⟨by omega,λj hj _ _=>by omega⟩};refine eX ⟨cq,cq,cq,cq,⟨rfl,_,rfl,ah (by simp [-List.getD_eq_getElem?_getD];omega)⟩,tt⟩ trivial
  ·rintro i ⟨hi,hn⟩
   refine sq (sq (rg [] rfl ?_))
   refine cd rfl (λw=>?_) (λw=>?_)
   ·(have u:i<4:=by simp [-List.getD_eq_getElem?_getD]at w;omega);refine sk (sq (bk (sq (rgs [] rfl ?_ ?_))));{simp [-List.getD_eq_getElem?_getD,ay,under];omega};refine cd rfl (λr=>?_) (λr=>?_);{refine sg rfl (rX ?_);refine fin1 hT (by rfl) (ads (ab3 λh=>?_));have q:=h.2.1 i u hi;simp [-List.getD_eq_getElem?_getD]at r;exact r q};refine sk (rg [] rfl ?_);refine ⟨i+1,?_,?_,?_⟩;{refine ⟨by omega,λk y l v=>?_⟩;rcases acf k i with h | h;{exact hn k h l v};(obtain rfl:k=i:=by omega);simp [-List.getD_eq_getElem?_getD]at r;exact r};{refine eX cX trivial};(try simp only []);first | omega | grind
   ·have u:4<=i:=by simp [-List.getD_eq_getElem?_getD]at w;omega
    have t:∀ k:Nat,k<4->(bG s c).len<=k->(bG s c).buf.getD k 0=0:=λk y l=>hn k (by omega) y l
    have fin:∀ b:Bool,(b=true↔((bG s c).offer=0->(bG s c).frm=0/\(bG s c).val=0) /\
     ((bG s c).offer=1->(bG s c).closed=false)/\((bG s c).offer=2\/(bG s c).offer=3->(bG s c).val=0)/\((bG s c).offer=3->(bG s c).closed=true)/\((bG s c).offer≠0->qm p s (bG s c).frm c))->b=decide (tJ p s c):=λb hb=>by
     rw [abT,hb,decide_eq_true_iff]
     exact ⟨λh=>⟨h1,t,h⟩,λh=>h.2.2⟩
    refine xt (sq (sq (rg [] rfl ?_)))
    refine cd rfl (λl=>?_) (λl=>?_)
    ·(have n:(bG s c).offer=0:=by simp [-List.getD_eq_getElem?_getD]at l;exact l);refine sg rfl (rX ?_);refine fin1 hT (by rfl) (fin _ ?_);simp only [band];simp [-List.getD_eq_getElem?_getD,n]
    (have n:(bG s c).offer≠0:=by simp [-List.getD_eq_getElem?_getD]at l;exact l)
    refine sk (sq (sq (rg [] rfl ?_)))
    refine cd rfl (λf=>?_) (λf=>?_);{simp only [band,fM]at f;refine sg rfl (rX ?_);refine fin1 hT (by rfl) (fin _ ?_);simp [-List.getD_eq_getElem?_getD]at f ⊢;grind};simp only [band,fM]at f;(have m:((bG s c).offer=1->(bG s c).closed=false)/\((bG s c).offer=2\/(bG s c).offer=3->(bG s c).val=0)/\((bG s c).offer=3->(bG s c).closed=true):=by simp [-List.getD_eq_getElem?_getD]at f;grind);have h6:=hg.1;refine sk (sq (sq (rgs [] rfl ?_ ?_)));{simp [-List.getD_eq_getElem?_getD,ay,under];omega};refine cd rfl (λg=>?_) (λg=>?_);{simp only [fM]at g;refine sg rfl (rX ?_);refine fin1 hT (by rfl) (fin _ ?_);(have:¬ qm p s (bG s c).frm c:=by intro h;obtain ⟨a,b,d,_⟩:=h;simp [-List.getD_eq_getElem?_getD]at g;grind);simp [-List.getD_eq_getElem?_getD,n,this]};simp only [fM]at g;(have x:0<=(bG s c).frm/\(bG s c).frm<s.count/\(goI s (bG s c).frm).status=2:=by simp [-List.getD_eq_getElem?_getD]at g;grind);have hf:=hg.2 (bG s c).frm.toNat (by omega);refine sk (sq (drs [] rfl ?_ ?_));{have q:=hf.2.1;have h4:=hf.2.2.1;simp only [aZ,bM]at q h4;simp [-List.getD_eq_getElem?_getD,ay,under];omega};refine sg rfl (rX ?_);refine fin1 hT (by rfl) (fin _ ?_);simp only [band];rw [aa3,ab9,ab9];constructor;{exact λh=>⟨λe=>absurd e n,m.1,m.2.1,m.2.2,λ_=>⟨x.1,x.2.1,x.2.2,h⟩⟩};exact λh=>(h.2.2.2.2 n).2.2.2
theorem gW {s:bW} (h:mZ s) (k:Nat):Ap (s.gos.getD k go0):=by
 rw [aaS];cases hk:s.gos[k]? with| none=>rfl| some g=>exact h.go g (ab2 hk)
theorem ku {s:bW} (h:mZ s) (k:Nat):DJ (s.chans.getD k AU):=by
 rw [aaS];cases hk:s.chans[k]? with| none=>rfl| some g=>exact h.ch g (ab2 hk)
theorem RF {g:jm} (h:Ap g):(g.status==0&&(g.func==0&&(g.pc==0&&(g.why==0&&(true&&g.regs.getD 0 0==0&&g.regs.getD 1 0==0&&g.regs.getD 2 0==0&&g.regs.getD 3 0==0&&g.regs.getD 4 0==0&&g.regs.getD 5 0==0&&g.regs.getD 6 0==0&&g.regs.getD 7 0==0&&true)))))=decide (g=go0):=by
 obtain ⟨a,b,c,d,l⟩:=g;match l,h with| [x0,x1,x2,x3,x4,x5,x6,x7],_=>rw [abT];simp [go0];grind
theorem Sr {c:iM} (h:DJ c):(true&&c.buf.getD 0 0==0&&c.buf.getD 1 0==0&&c.buf.getD 2 0==0&&c.buf.getD 3 0==0&&(c.len==0&&(c.closed==false&&(c.offer==0&&(c.frm==0&&(c.val==0&&true))))))=decide (c=AU):=by
 obtain ⟨l,a,b,c,d,e⟩:=c;match l,h with| [x0,x1,x2,x3],_=>rw [abT];simp [AU];grind
theorem abk (p:aj) (s:bW):(AV.agg 279 6 λ_=>AV.int 0)=kX 279 6 .i64 (xk p s 0):=bP λi=>by match i with | 0 | 1 | 2 | 3 | 4 | 5=>rfl | i+6=>rfl
theorem LM (p:aj) (s:bW) (ho:mZ s):AC Tryz.prog T aJ 129 [ak p,encS s] [] (.bool (decide (dG p s))) []:=by
 refine aX Tryz.func129 ?_;refine sg rfl (sq (sq ?_));refine WP.ent (st':=aN [(2,.rp 26 (ak p)),(3,.rp 62 (encS s))] []) (em [(.s 2 0,1),(.s 3 0,1)] ⟨sF,sF,tt⟩ ⟨rq,rq,tt⟩ trivial) ?_;refine rgs [CG.pure (.bool (dX p))] rfl ?_ ?_
 ·have hq:=Dk p;exact au
 refine cd rfl (λh1=>?_) (λh1=>?_)
 ·simp only [fM]at h1;refine sg rfl (rX ?_);refine fin1 hT (by rfl) (ads (ab3 λh=>?_));have h2:=h.1;have l:=h.2.1;simp [-List.getD_eq_getElem?_getD,h2]at h1;omega
 simp only [fM]at h1;(have hr:dX p=true/\(1<=s.count/\s.count<=6):=by simp [-List.getD_eq_getElem?_getD]at h1;cases hz:dX p <;> simp [hz]at h1 ⊢ <;> omega);have hp:=jZ hr.1;have b7:p.locks<=4:=hp.locks.2;refine sk (sq (sq (rg [] rfl ?_)));refine bk (WP.loop (α:=Nat) (λi=>aN [(2,.rp 26 (ak p)),(3,.rp 62 (encS s)),(30,kX 52 8 .i64 s.vars),(31,.int i)] []) (λi=>i<=8 /\ ∀ k,k<i->JX p s k) (λi=>8 - i) ?_ ?_);{refine ⟨0,?_,?_⟩;{exact ⟨abr _,λj hj=>by omega⟩};refine eX cX trivial};rintro i ⟨hi,hn⟩;refine sg rfl (sq ?_);refine cd rfl (λh4=>?_) (λh4=>?_);{(have a:i<8:=by simp [-List.getD_eq_getElem?_getD]at h4;omega);refine sk (sq (bk (sq (rgs [] rfl ?_ ?_))));{simp [-List.getD_eq_getElem?_getD,ay,under];omega};refine sg rfl (cd rfl (λh6=>?_) (λh6=>?_));{simp only [band]at h6;refine sg rfl (rX ?_);refine fin1 hT (by rfl) (ads (ab3 λh=>?_));have l:=h.2.2.1 i a;unfold JX at l;simp [-List.getD_eq_getElem?_getD]at h6;exact h6.2 (l (by omega))};simp only [band]at h6;refine sk (rg [] rfl ?_);refine ⟨i+1,?_,?_,?_⟩;{exact ⟨a,all_succ hn (λh=>by simp [-List.getD_eq_getElem?_getD]at h6;exact h6 (by omega))⟩};{refine eX cX trivial};(try simp only []);first | omega | grind};(have a:i=8:=by simp [-List.getD_eq_getElem?_getD]at h4;omega);subst a;refine xt (sq (sq (rg [] rfl ?_)));refine bk (WP.loop (α:=Nat) (λj=>aN [(2,.rp 26 (ak p)),(3,.rp 62 (encS s)),(46,kX 53 4 .i64 s.owner),(47,.int j)] []) (λj=>j<=4 /\ ∀ k,k<j->Dz p s k) (λj=>4 - j) ?_ ?_);{refine ⟨0,?_,?_⟩;{exact ⟨abr _,λj hj=>by omega⟩};refine eX cX trivial};rintro j ⟨hj,a8⟩;refine sg rfl (sq ?_);refine cd rfl (λv=>?_) (λv=>?_);{(have q:j<4:=by simp [-List.getD_eq_getElem?_getD]at v;omega);refine sk (sq (bk (sq (rgs [] rfl ?_ ?_))));{simp [-List.getD_eq_getElem?_getD,ay,under];omega};refine sg rfl (cd rfl (λm=>?_) (λm=>?_));{simp only [band,fM]at m;refine sg rfl (rX ?_);refine fin1 hT (by rfl) (ads (ab3 λh=>?_));have l:=h.2.2.2.1 j q;unfold Dz at l;simp [-List.getD_eq_getElem?_getD]at m;grind};simp only [band,fM]at m;refine sk (rg [] rfl ?_);refine ⟨j+1,?_,?_,?_⟩;{exact ⟨q,all_succ a8 (by unfold Dz;simp [-List.getD_eq_getElem?_getD]at m;grind)⟩};{refine eX cX trivial};(try simp only []);first | omega | grind};(have q:j=4:=by simp [-List.getD_eq_getElem?_getD]at v;omega);subst q;refine xt (sq (sq (rg [] rfl ?_)));refine bk (WP.loop (α:=Nat) (λk=>aN [(2,.rp 26 (ak p)),(3,.rp 62 (encS s)),(71,yx 60 6 cZ go0 s.gos),(72,.int k)] []) (λk=>k<=6 /\ ∀ j,j<k->Ce p s j) (λk=>6 - k) ?_ ?_);{refine ⟨0,?_,?_⟩;{exact ⟨abr _,λj hj=>by omega⟩};refine eX cX trivial};rintro k ⟨hk,a3⟩;refine sg rfl (sq ?_);refine cd rfl (λw=>?_) (λw=>?_);{(have r:k<6:=by simp [-List.getD_eq_getElem?_getD]at w;omega);refine sk (sq (bk (sq (rgs [] rfl ?_ ?_))));{simp [-List.getD_eq_getElem?_getD,ay,under];omega};refine sq (rgs [CG.pure (.bool (decide (oL p (s.gos.getD k go0))))] rfl ?_ ?_);{have hq:=Zn p (s.gos.getD k go0);exact au};refine cd rfl (λd=>?_) (λd=>?_);{simp only [band,fM,ab6]at d;rw [RF (gW ho k)]at d;refine sg rfl (rX ?_);refine fin1 hT (by rfl) (ads (ab3 λh=>?_));have l:=h.2.2.2.2.1 k r;unfold Ce at l;simp [-List.getD_eq_getElem?_getD]at d;grind};simp only [band,fM,ab6]at d;rw [RF (gW ho k)]at d;refine sk (rg [] rfl ?_);refine ⟨k+1,?_,?_,?_⟩;{exact ⟨r,all_succ a3 (by unfold Ce;simp [-List.getD_eq_getElem?_getD]at d;grind)⟩};{refine eX cX trivial};(try simp only []);first | omega | grind};(have r:k=6:=by simp [-List.getD_eq_getElem?_getD]at w;omega);subst r;have b3:Xn p s:=⟨hr.2.2,λk hk=>(a3 k (by omega)).1 hk⟩;refine xt (sq (rg [] rfl ?_));refine sq (sq (rg [] rfl ?_));refine bk (WP.loop (α:=Nat) (λc=>aN [(2,.rp 26 (ak p)),(3,.rp 62 (encS s)),(11,.ptr (.s 11 0) 1 0 []),(100,yx 57 4 dS AU s.chans),(101,.int c)] [(.s 11 0,.cells ⟨279,1,λ_=>kX 279 6 .i64 (xk p s c),0⟩)]) (λc=>c<=4 /\ ∀ j,j<c->Lp p s j) (λc=>4 - c) ?_ ?_);{refine ⟨0,?_,?_⟩;{exact ⟨abr _,λj hj=>by omega⟩};refine eX cX ⟨obs rfl (hg:=q0 (ah (abk p s))),tt⟩};rintro c ⟨hc,t⟩;refine sg rfl (sq ?_);refine cd rfl (λx=>?_) (λx=>?_);{(have f:c<4:=by simp [-List.getD_eq_getElem?_getD]at x;omega);refine sk (sq (bk (sq (rgs [] rfl ?_ ?_))));{simp [-List.getD_eq_getElem?_getD,ay,under];omega};refine sq (sq (rg [] rfl ?_));refine cd rfl (λy=>?_) (λy=>?_);{(have o:p.chans.length<=c:=by simp [-List.getD_eq_getElem?_getD]at y;omega);refine sq (sq (rg [] rfl ?_));refine cd rfl (λb=>?_) (λb=>?_);{simp only [ab6]at b;rw [Sr (ku ho c)]at b;refine sg rfl (rX ?_);refine fin1 hT (by rfl) (ads (ab3 λh=>?_));have l:=h.2.2.2.2.2.1 c f;unfold Lp at l;simp [-List.getD_eq_getElem?_getD]at b;exact b (l.2 o)};simp only [ab6]at b;rw [Sr (ku ho c)]at b;refine sk (xt (rg [] rfl ?_));refine ⟨c+1,?_,?_,?_⟩;{exact ⟨f,all_succ t ⟨λh=>by omega,λ_=>by simp [-List.getD_eq_getElem?_getD]at b;exact b⟩⟩};{refine eX cX ⟨obs rfl (hg:=q0 (ah (by rw [Jl (by omega)]))),tt⟩};(try simp only []);first | omega | grind};(have o:c<p.chans.length:=by simp [-List.getD_eq_getElem?_getD]at y;omega);refine sk (sq (sq (rgs [CG.pure (.bool (decide (tJ p s c)))] rfl ?_ ?_)));{have hq:=QD p s c hp b3 o;exact au};refine cd rfl (λz=>?_) (λz=>?_);{refine sg rfl (rX ?_);refine fin1 hT (by rfl) (ads (ab3 λh=>?_));have l:=(h.2.2.2.2.2.1 c f).1 o;simp [l]at z};(have a2:tJ p s c:=by simpa using z);refine sk (sq (rg [] rfl ?_));refine cd rfl (λn=>?_) (λn=>?_);{(have a9:(bG s c).offer≠0:=by simp [-List.getD_eq_getElem?_getD]at n;exact n);have a5:=a2.2.2.2.2.2.2 a9;have u:0<=(bG s c).frm/\(bG s c).frm<6:=⟨a5.1,by have:=a5.2.1;omega⟩;refine rgs [] rfl ?_ ?_;{simp [-List.getD_eq_getElem?_getD,ay,under];omega};refine rg [] rfl ?_;have hl:=Kv p s (bG s c).frm c;have h0:=Kw p s c (g:=(bG s c).frm.toNat) (by omega);rw [adu u.1]at h0;(have hE:(kX 279 6 .i64 (xk p s c)).put [(bG s c).frm.toNat] (.int (IntKind.i64.wrap ((xk p s c).getD (bG s c).frm.toNat 0+1)))=kX 279 6 .i64 (xk p s (c+1)):=by refine (y9 (by rw [WR];omega)).trans (ab5 (kX _ _ _) (Eq.trans ?_ (WQ ⟨o,a9⟩ u)));rw [h0,bK (by omega) (by omega)]);refine ⟨c+1,?_,?_,?_⟩;{exact ⟨f,all_succ t ⟨λ_=>a2,λh=>by omega⟩⟩};{refine eX cX ⟨obs rfl (hg:=q0 (ah hE)),tt⟩};(try simp only []);first | omega | grind};refine sk (rg [] rfl ?_);refine ⟨c+1,?_,?_,?_⟩;{exact ⟨f,all_succ t ⟨λ_=>a2,λh=>by omega⟩⟩};{refine eX cX ⟨obs rfl (hg:=q0 (ah (by rw [Jl (λh=>by simp [-List.getD_eq_getElem?_getD]at n;exact h.2 n)]))),tt⟩};(try simp only []);first | omega | grind};(have f:c=4:=by simp [-List.getD_eq_getElem?_getD]at x;omega);subst f;refine xt (sq (sq (rg [] rfl ?_)));refine bk (WP.loop (α:=Nat) (λi=>aN [(3,.rp 62 (encS s)),(11,.ptr (.s 11 0) 1 0 []),(129,yx 60 6 cZ go0 s.gos),(130,.int i)] [(.s 11 0,.cells ⟨279,1,λ_=>kX 279 6 .i64 (xk p s 4),0⟩)]) (λi=>i<=6 /\ ∀ j,j<i->FK p s j) (λi=>6 - i) ?_ ?_);{refine ⟨0,?_,?_⟩;{exact ⟨abr _,λj hj=>by omega⟩};refine eX cX ⟨obs rfl,tt⟩};rintro i ⟨hi,a7⟩;refine sg rfl (sq ?_);refine cd rfl (λa0=>?_) (λa0=>?_);{(have a:i<6:=by simp [-List.getD_eq_getElem?_getD]at a0;omega);refine sk (sq (bk (sq (rgs [] rfl ?_ ?_))));{simp [-List.getD_eq_getElem?_getD,ay,under];omega};refine sq (rgs [] rfl ?_ ?_);{simp [-List.getD_eq_getElem?_getD,ay,under];omega};refine cd rfl (λe=>?_) (λe=>?_);{simp only [band,fM,ab6]at e;rw [Kw p s 4 a]at e;refine sg rfl (rX ?_);refine fin1 hT (by rfl) (ads (ab3 λh=>?_));have l:=h.2.2.2.2.2.2 i a;unfold FK at l;simp [-List.getD_eq_getElem?_getD]at e;grind};simp only [band,fM,ab6]at e;rw [Kw p s 4 a]at e;refine sk (rg [] rfl ?_);refine ⟨i+1,?_,?_,?_⟩;{exact ⟨a,all_succ a7 (by unfold FK;simp [-List.getD_eq_getElem?_getD]at e;grind)⟩};{refine eX cX ⟨obs rfl,tt⟩};(try simp only []);first | omega | grind};(have a:i=6:=by simp [-List.getD_eq_getElem?_getD]at a0;omega);subst a;refine xt (sq (rg [] rfl ?_));exact WP.ret (fin1 hT (by rfl) (ads (acj ⟨hr.1,hr.2,hn,a8,a3,t,a7⟩)))
theorem Pz (p:aj):AC Tryz.prog T aJ 61 [ak p] [] (y7 p) []:=by
 refine aX Tryz.func61 ?_;refine sg rfl (sq (sq (rg [] rfl ?_)));refine cd rfl (λl=>?_) (λl=>?_)
 ·(have hb:szB p=true:=by simp only [fM]at l;exact l);(have hw:kS p=30:=by rw [kS,aaI hb]);exact sg rfl (WP.ret (lI (e:=30) (a:=0) (b:=0) (by rw [o7,hw,aaI (by decide)]) rfl rfl rfl rfl rfl rfl (ah rfl)))
 ·have u:szB p=false:=by simp only [fM]at l;exact l
  have a0:p.chans.length<=4/\p.funcs.length<=8:=by have h9:=u;simp [szB]at h9;omega
  refine sk (sq (sq (rg [] rfl ?_)))
  refine bk (WP.loop (α:=Nat) (λi=>aN [(1,.rp 26 (ak p)),(3,.ptr (.s 3 0) 1 0 []),(46,ints false p.chans),(47,.int p.chans.length),(48,.int i)] [(.s 3 0,.cells ⟨128,1,λ_=>xR 0 0,0⟩)]) (λi=>i<=p.chans.length /\ ∀ j,j<i->EC (p.chans.getD j 0)=0) (λi=>p.chans.length - i) ?_ ?_)
  ·refine ⟨0,?_,?_⟩;{exact ⟨abr _,λj hj=>by omega⟩};refine em [(.s 1 0,1)] ⟨⟨_,rfl,aa1 _⟩,tt⟩ ⟨⟨rfl,_,rfl,bH rfl rfl (by decide) rfl rfl rfl⟩,cq,cq,cq,cq,tt⟩ ⟨obs rfl,tt⟩
  ·rintro i ⟨hi,hn⟩
   refine sg rfl (sq ?_)
   refine cd rfl (λy=>?_) (λy=>?_)
   ·(have c:i<p.chans.length:=by simpa using y);refine sk (sq (bk (sq (rgs [] rfl ?_ ?_))));{simp [ay,under];omega};refine sg rfl (cd rfl (λw=>?_) (λw=>?_));{(have hx:EC (p.chans.getD i 0)=31:=by simp only [fM]at w;exact aaI w);(have hw:kS p=31:=by rw [kS,u,Y0 (by simp),xC c hn (by rw [hx];decide),hx]);exact sg rfl (WP.ret (lI (e:=31) (a:=0) (b:=0) (by rw [o7,hw,aaI (by decide)]) rfl rfl rfl rfl rfl rfl (ah rfl)))};(have hx:EC (p.chans.getD i 0)=0:=by simp only [fM]at w;exact Y0 (by rw [show (decide (p.chans.getD i 0<0)||decide (p.chans.getD i 0>4))=false from w];decide));refine sk (rg [] rfl ?_);refine ⟨i+1,?_,?_,?_⟩;{exact ⟨c,iT hn hx⟩};{refine eX cX ⟨obs rfl,tt⟩};(try simp only []);first | omega | grind
   ·have c:i=p.chans.length:=by simp at y;omega
    subst c
    have hw:kS p=0:=by rw [kS,u,Y0 (by simp),lH hn]
    clear hn hi
    have a7:=a0.2
    refine xt (sq (sq (rg [] rfl ?_)))
    refine bk (WP.loop (α:=Nat) (λi=>aN [(1,.rp 26 (ak p)),(3,.ptr (.s 3 0) 1 0 []),(61,rowP 100 jv lG p.funcs),(62,.int p.funcs.length),(63,.int i)] [(.s 3 0,.cells ⟨128,1,λ_=>xR 0 0,0⟩)]) (λi=>i<=p.funcs.length /\ ∀ j,j<i->(tu p (aV p j) (j==0)).1=0) (λi=>p.funcs.length - i) ?_ ?_)
    ·refine ⟨0,?_,?_⟩;{exact ⟨abr _,λj hj=>by omega⟩};refine eX cX ⟨obs rfl,tt⟩
    ·rintro i ⟨hi,hn⟩
     refine sg rfl (sq ?_)
     refine cd rfl (λm=>?_) (λm=>?_)
     ·have c:i<p.funcs.length:=by simpa using m
      refine sk (sq (bk (sq (rgs [] rfl ?_ ?_))))
      ·simp [ay,under];omega
      refine sq (sq (rgs [CG.pure (.bool (fU (aV p i) (i==0)))] rfl ?_ ?_))
      ·have v:=Uo i (aV p i);refine ⟨rfl,?_⟩;exact v
      refine cd rfl (λn=>?_) (λn=>?_)
      ·(have hb:fU (aV p i) (i==0)=false:=by simpa using n);exact sg rfl (WP.ret (lI (e:=32) (a:=i) (b:=0) (qZ (e:=32) hw c hn (by rw [tu,aaI hb]) (by decide)) rfl rfl rfl rfl rfl rfl (ah (bP (λq=>by match q with | 0 | 1 | q+2=>rfl)))))
      ·have hb:fU (aV p i) (i==0)=true:=by simpa using n
       have z:(aV p i).code.length<=64/\1<=(aV p i).code.length:=by(have l:Ph (aV p i) (i==0)=true:=by have h2:=hb;rw [fU,aa3]at h2;exact h2.1);rw [qM]at l;omega
       refine sk (sq (rgs [CG.pure (.int (qU p (aV p i)))] rfl ?_ ?_))
       ·have g:=MN p (aV p i) (i==0) hb;refine ⟨rfl,?_⟩;exact g
       refine sq (sq (rg [] rfl ?_))
       refine cd rfl (λo=>?_) (λo=>?_)
       ·(have g:qU p (aV p i)≠0:=by simpa using o);refine sg rfl (rX ?_);exact lI (e:=qU p (aV p i)) (a:=i) (b:=0) (qZ hw c hn (by rw [tu,Y0 (by rw [hb];decide),aaI g]) g) rfl rfl rfl rfl rfl rfl (ah (bP (λq=>by match q with | 0 | 1 | q+2=>rfl)))
       ·have g:qU p (aV p i)=0:=by simpa using o
        refine sk (sq (sq (rg [] rfl ?_)))
        refine bk (WP.loop (α:=Nat) (λk=>aN [(1,.rp 26 (ak p)),(3,.ptr (.s 3 0) 1 0 []),(6,.int i),(7,.rp 100 (jv (aV p i))),(61,rowP 100 jv lG p.funcs),(62,.int p.funcs.length),(63,.int i),(83,rowP 120 aT nM (aV p i).code),(84,.int (aV p i).code.length),(85,.int k)] [(.s 3 0,.cells ⟨128,1,λ_=>xR 0 0,0⟩)]) (λk=>k<=(aV p i).code.length /\ ∀ j,j<k->ji p (aV p i) ((aV p i).code.getD j nM)=0) (λk=>(aV p i).code.length - k) ?_ ?_)
        ·refine ⟨0,?_,?_⟩;{exact ⟨abr _,λj hj=>by omega⟩};refine em [(.s 7 0,1)] ⟨⟨_,rfl,aa1 _⟩,tt⟩ ⟨cq,cq,cq,⟨rfl,_,rfl,bH rfl rfl (by decide) rfl rfl rfl⟩,cq,cq,cq,cq,cq,cq,tt⟩ ⟨obs rfl,tt⟩
        ·rintro k ⟨hk,hc⟩
         refine sg rfl (sq ?_)
         refine cd rfl (λr=>?_) (λr=>?_)
         ·(have f:k<(aV p i).code.length:=by simpa using r);refine sk (sq (bk (sq (rgs [] rfl ?_ ?_))));{have a4:k<(p.funcs[i]?.getD lG).code.length:=f;simp [ay,under];omega};refine sq (rgs [CG.pure (.int (ji p (aV p i) ((aV p i).code.getD k nM)))] rfl ?_ ?_);{have hx:=TD p (aV p i) ((aV p i).code.getD k nM);refine ⟨rfl,?_⟩;exact hx};refine sg rfl (cd rfl (λt=>?_) (λt=>?_));{(have hx:ji p (aV p i) ((aV p i).code.getD k nM)≠0:=by simpa using t);refine sg rfl (rX ?_);exact lI (e:=ji p (aV p i) ((aV p i).code.getD k nM)) (a:=i) (b:=k) (qZ hw c hn (by rw [tu,Y0 (by rw [hb];decide),Y0 (λh=>h g),xC f hc hx,Qr f hc hx,aaI hx]) hx) rfl rfl rfl rfl rfl rfl (ah (bP (λq=>by match q with | 0 | 1 | q+2=>rfl)))};(have hx:ji p (aV p i) ((aV p i).code.getD k nM)=0:=by simpa using t);refine sk (rg [] rfl ?_);refine ⟨k+1,?_,?_,?_⟩;{exact ⟨f,iT hc hx⟩};{refine eX cX ⟨obs rfl,tt⟩};(try simp only []);first | omega | grind
         ·have f:k=(aV p i).code.length:=by simp only [abW]at r;omega
          subst f
          have ho:((aV p i).code.getD (IntKind.i64.wrap (((aV p i).code.length:Int) - 1)).toNat nM).op=yc (aV p i):=by(have x:(aV p i).code.getD (IntKind.i64.wrap (((aV p i).code.length:Int) - 1)).toNat nM=(aV p i).code.getD ((aV p i).code.length - 1) nM:=by rw [bK (by omega) (by omega)];congr 1;omega);rw [x];rfl
          refine xt (sq (rgs [] rfl ?_ ?_))
          ·have a2:(p.funcs[i]?.getD lG).code.length<=64/\1<=(p.funcs[i]?.getD lG).code.length:=z;simp [ay,under];rw [bK (by omega) (by omega)];omega
          refine sg rfl (cd rfl (λd=>?_) (λd=>?_))
          ·have he:uh (yc (aV p i))=false:=by simp only [band,aa3,bne_iff_ne]at d;rw [<- ho];exact RZ (by simpa using d.1.1) (by simpa using d.1.2) (by simpa using d.2)
           refine sq (dr [] rfl ?_)
           refine rX ?_
           exact lI (e:=39) (a:=i) (b:=IntKind.i64.wrap (((aV p i).code.length:Int) - 1)) (by
            rw [bK (by omega) (by omega)]
            exact qZ hw c hn (by rw [tu,Y0 (by rw [hb];decide),Y0 (λh=>h g),Y0 (λh=>h (lH hc)),Y0 (by rw [he];decide)]) (by decide)) rfl rfl rfl rfl rfl rfl (ah (bP (λq=>by match q with | 0 | 1 | q+2=>rfl)))
          (have he:uh (yc (aV p i))=true:=by rw [<- ho];have e:=d;simp only [band]at e;cases v:uh ((aV p i).code.getD (IntKind.i64.wrap (((aV p i).code.length:Int) - 1)).toNat nM).op with| true=>rfl| false=>exfalso;simp only [uh,ac0]at v;simp only [bne,v.1.1,v.1.2,v.2]at e;(cases e))
          refine sk (rg [] rfl ?_)
          refine ⟨i+1,?_,?_,?_⟩;{refine ⟨c,iT hn ?_⟩;rw [tu,Y0 (by rw [hb];decide),Y0 (λh=>h g),Y0 (λh=>h (lH hc)),aaI he]};{refine eX cX ⟨obs rfl,tt⟩};(try simp only []);first | omega | grind
     (have c:i=p.funcs.length:=by simp at m;omega)
     subst c
     refine xt (sq (rg [] rfl ?_))
     exact WP.ret (lI (e:=0) (a:=0) (b:=0) (OC hw hn) rfl rfl rfl rfl rfl rfl (ah rfl))
theorem Bz (p:aj):AC Tryz.prog T aJ 24 [ak p] [] (.bool ((o7 p).1==0)) []:=by
 refine aX Tryz.func24 ?_;refine sg rfl (sq (rgs [CG.pure (y7 p)] rfl ?_ ?_))
 ·have hc:=Pz p;exact ⟨⟨rfl,hc⟩,rfl,aa1 _⟩
 exact sg rfl (WP.ret (fin1 hT (by rfl) rfl))
theorem WO {p:aj} {s:bW} {g:Int} (h:∀ k,k<4->p.chans.length<=k->bG s k=AU):∀ c,c<4->uf p s g (c+1)=uf p s g c+if (bG s c).offer≠0/\(bG s c).frm=g then 1 else 0:=λc hc=>by
 rw [uf];by_cases a:c<p.chans.length
 ·simp only [a,true_and]
 ·rw [Y0 (λe=>a e.1),h c hc (by omega)];rfl
theorem Tm (p:aj) (s:bW) (ho:mZ s):AC Tryz.prog T aJ 91 [ak p,encS s] [] (.bool (decide (dG p s))) []:=by
 refine aX Tryz.func91 ?_;refine sg rfl (sq (sq ?_));refine WP.ent (st':=aN [(2,.rp 26 (ak p)),(3,.rp 62 (encS s))] []) (em [(.s 2 0,1),(.s 3 0,1)] ⟨sF,sF,tt⟩ ⟨rq,rq,tt⟩ trivial) ?_;refine rgs [CG.pure (.bool (dX p))] rfl ?_ ?_
 ·have hq:=Bz p;exact au
 refine cd rfl (λv=>?_) (λv=>?_)
 ·simp only [fM]at v;refine sg rfl (rX ?_);refine fin1 hT (by rfl) (ads (ab3 λh=>?_));have h2:=h.1;have o:=h.2.1;simp [-List.getD_eq_getElem?_getD,h2]at v;omega
 simp only [fM]at v;(have hr:dX p=true/\(1<=s.count/\s.count<=6):=by simp [-List.getD_eq_getElem?_getD]at v;cases hz:dX p <;> simp [hz]at v ⊢ <;> omega);have hp:=jZ hr.1;have hF:∀ f∈p.funcs,0<=f.regs:=λf hf=>(hp.fn f hf).regs.1;have b6:p.locks<=4:=hp.locks.2;have b7:=hp.vars;refine sk (sq (sq (rg [] rfl ?_)));refine bk (WP.loop (α:=Nat) (λk=>aN [(2,.rp 26 (ak p)),(3,.rp 62 (encS s)),(25,.int k)] []) (λk=>k<=6 /\ ∀ j,j<k->Ce p s j) (λk=>6 - k) ?_ ?_);{refine ⟨0,?_,?_⟩;{exact ⟨abr _,λj hj=>by omega⟩};refine eX cX trivial};rintro k ⟨hk,u⟩;refine sg rfl (sq ?_);refine cd rfl (λh4=>?_) (λh4=>?_);{(have t:k<6:=by simp [-List.getD_eq_getElem?_getD]at h4;omega);refine sk (sq (bk (sq (rg [] rfl ?_))));refine sq (drs [CG.pure (.bool (decide (oL p (s.gos.getD k go0))))] rfl ?_ ?_);{have hq:=KP p (s.gos.getD k go0) hF;exact au};refine cd rfl (λh6=>?_) (λh6=>?_);{simp only [band,fM,ab6]at h6;rw [RF (gW ho k)]at h6;refine sg rfl (rX ?_);refine fin1 hT (by rfl) (ads (ab3 λh=>?_));have o:=h.2.2.2.2.1 k t;unfold Ce at o;simp [-List.getD_eq_getElem?_getD]at h6;grind};simp only [band,fM,ab6]at h6;rw [RF (gW ho k)]at h6;refine sk (rg [] rfl ?_);refine ⟨k+1,?_,?_,?_⟩;{exact ⟨t,all_succ u (by unfold Ce;simp [-List.getD_eq_getElem?_getD]at h6;grind)⟩};{refine eX cX trivial};(try simp only []);first | omega | grind};(have t:k=6:=by simp [-List.getD_eq_getElem?_getD]at h4;omega);subst t;have b1:Xn p s:=⟨hr.2.2,λk hk=>(u k (by omega)).1 hk⟩;refine xt (sq (sq (rg [] rfl ?_)));refine bk (WP.loop (α:=Nat) (λi=>aN [(2,.rp 26 (ak p)),(3,.rp 62 (encS s)),(6,.int i)] []) (λi=>p.vars.length<=i /\ ∀ k,k<i->k<8->JX p s k) (λi=>8 - i) ?_ ?_);{refine ⟨p.vars.length,?_,?_⟩;{exact ⟨aa1 _,λk h _ h2=>by omega⟩};refine eX cX trivial};rintro i ⟨hi,hn⟩;refine sq (sq (rg [] rfl ?_));refine cd rfl (λx=>?_) (λx=>?_);{(have q:i<8:=by simp [-List.getD_eq_getElem?_getD]at x;omega);refine sk (sq (bk (sq (rgs [] rfl ?_ ?_))));{simp [-List.getD_eq_getElem?_getD,ay,under];omega};refine cd rfl (λl=>?_) (λl=>?_);{refine sg rfl (rX ?_);refine fin1 hT (by rfl) (ads (ab3 λh=>?_));have o:=h.2.2.1 i q hi;simp [-List.getD_eq_getElem?_getD]at l;exact l o};refine sk (rg [] rfl ?_);refine ⟨i+1,?_,?_,?_⟩;{exact ⟨by omega,all_succ (Q:=λk=>k<8->JX p s k) hn (λ_ _=>by simp [-List.getD_eq_getElem?_getD]at l;exact l)⟩};{refine eX cX trivial};(try simp only []);first | omega | grind};(have q:8<=i:=by simp [-List.getD_eq_getElem?_getD]at x;omega);refine xt (sq (sq (rg [] rfl ?_)));refine bk (WP.loop (α:=Nat) (λj=>aN [(2,.rp 26 (ak p)),(3,.rp 62 (encS s)),(68,.int j)] []) (λj=>j<=4 /\ ∀ k,k<j->Dz p s k) (λj=>4 - j) ?_ ?_);{refine ⟨0,?_,?_⟩;{exact ⟨abr _,λj hj=>by omega⟩};refine eX cX trivial};rintro j ⟨hj,a5⟩;refine sg rfl (sq ?_);refine cd rfl (λy=>?_) (λy=>?_);{(have r:j<4:=by simp [-List.getD_eq_getElem?_getD]at y;omega);refine sk (sq (bk (sq (rg [] rfl ?_))));refine sq (drs [] rfl ?_ ?_);{simp [-List.getD_eq_getElem?_getD,ay,under];omega};refine cd rfl (λm=>?_) (λm=>?_);{simp only [band,fM]at m;refine sg rfl (rX ?_);refine fin1 hT (by rfl) (ads (ab3 λh=>?_));have o:=h.2.2.2.1 j r;unfold Dz at o;simp [-List.getD_eq_getElem?_getD]at m;grind};simp only [band,fM]at m;refine sk (rg [] rfl ?_);refine ⟨j+1,?_,?_,?_⟩;{exact ⟨r,all_succ a5 (by unfold Dz;simp [-List.getD_eq_getElem?_getD]at m;grind)⟩};{refine eX cX trivial};(try simp only []);first | omega | grind};(have r:j=4:=by simp [-List.getD_eq_getElem?_getD]at y;omega);subst r;refine xt (sq (sq (rg [] rfl ?_)));refine bk (WP.loop (α:=Nat) (λc=>aN [(2,.rp 26 (ak p)),(3,.rp 62 (encS s)),(99,.int c)] []) (λc=>c<=4 /\ ∀ j,j<c->Lp p s j) (λc=>4 - c) ?_ ?_);{refine ⟨0,?_,?_⟩;{exact ⟨abr _,λj hj=>by omega⟩};refine eX cX trivial};rintro c ⟨hc,a3⟩;refine sg rfl (sq ?_);refine cd rfl (λz=>?_) (λz=>?_);{(have a:c<4:=by simp [-List.getD_eq_getElem?_getD]at z;omega);refine sk (sq (bk (sq (rg [] rfl ?_))));refine sq (rgs [CG.pure (.bool (decide (tJ p s c)))] rfl ?_ ?_);{have hq:c<p.chans.length->_:=λh=>MW p s c hp b1 h;simp only [ay,under,CG.pure];(repeat' with_reducible refine And.intro ?_ ?_);(all_goals (try with_reducible intros));all_goals (first | exact trivial | omega | (simp [-List.getD_eq_getElem?_getD];omega) | (refine hq ?_;simp_all;done) | (simp_all;done) | (rcases acf c p.chans.length with b2 | b2 <;> simp_all))};refine cd rfl (λb=>?_) (λb=>?_);{simp only [band,fM,ab6]at b;rw [Sr (ku ho c)]at b;refine sg rfl (rX ?_);refine fin1 hT (by rfl) (ads (ab3 λh=>?_));have o:=h.2.2.2.2.2.1 c a;unfold Lp at o;simp [-List.getD_eq_getElem?_getD]at b;grind};simp only [band,fM,ab6]at b;rw [Sr (ku ho c)]at b;refine sk (rg [] rfl ?_);refine ⟨c+1,?_,?_,?_⟩;{exact ⟨a,all_succ a3 (by unfold Lp;simp [-List.getD_eq_getElem?_getD]at b;grind)⟩};{refine eX cX trivial};(try simp only []);first | omega | grind};(have a:c=4:=by simp [-List.getD_eq_getElem?_getD]at z;omega);subst a;have w:=λg=>WO (p:=p) (s:=s) (g:=g) (λk v h2=>(a3 k v).2 h2);refine xt (sq (sq (rg [] rfl ?_)));refine bk (WP.loop (α:=Nat) (λi=>aN [(3,.rp 62 (encS s)),(9,.int i)] []) (λi=>(i:Int)<=s.count /\ ∀ j,j<i->FK p s j) (λi=>s.count.toNat - i) ?_ ?_);{refine ⟨0,?_,?_⟩;{exact ⟨by omega,λj hj=>by omega⟩};refine eX cX trivial};rintro i ⟨b4,a4⟩;refine sq (sq (rg [] rfl ?_));refine cd rfl (λa0=>?_) (λa0=>?_);{(have q:(i:Int)<s.count:=by simp [-List.getD_eq_getElem?_getD]at a0;omega);refine sk (sq (bk (sq (rg [] rfl ?_))));refine sq (sq (rg [] rfl ?_));refine bk (WP.loop (α:=Nat) (λc=>aN [(3,.rp 62 (encS s)),(9,.int i),(10,.int (uf p s (i:Nat) c)),(136,.int c)] []) (λc=>c<=4) (λc=>4 - c) ?_ ?_);{refine ⟨0,?_,?_⟩;{exact abr _};refine eX cX trivial};rintro c hc;refine sg rfl (sq ?_);refine cd rfl (λa1=>?_) (λa1=>?_);{(have a:c<4:=by simp [-List.getD_eq_getElem?_getD]at a1;omega);refine sk (sq (bk (sq (rg [] rfl ?_))));refine sq (rgs [] rfl ?_ ?_);{simp [-List.getD_eq_getElem?_getD,ay,under];omega};refine cd rfl (λd=>?_) (λd=>?_);{simp only [band,ab6]at d;refine rg [] rfl (rg [] rfl ?_);have b5:=Kv p s (i:Nat) c;refine ⟨c+1,?_,?_,?_⟩;{exact a};{refine eX ⟨cq,cq,⟨rfl,_,rfl,ah (by rw [w _ c a,aaI (by simp [-List.getD_eq_getElem?_getD]at d;exact d),bK (by omega) (by omega)];rfl)⟩,cq,tt⟩ trivial};(try simp only []);first | omega | grind};simp only [band,ab6]at d;refine sk (rg [] rfl ?_);refine ⟨c+1,?_,?_,?_⟩;{exact a};{refine eX ⟨cq,cq,⟨rfl,_,rfl,ah (by rw [w _ c a,Y0 (by simp [-List.getD_eq_getElem?_getD]at d;grind)];rfl)⟩,cq,tt⟩ trivial};(try simp only []);first | omega | grind};(have a:c=4:=by simp [-List.getD_eq_getElem?_getD]at a1;omega);subst a;refine xt (sq (rgs [] rfl ?_ ?_));{simp [-List.getD_eq_getElem?_getD,ay,under];omega};refine cd rfl (λn=>?_) (λn=>?_);{simp only [band,ab6]at n;refine sg rfl (rX ?_);refine fin1 hT (by rfl) (ads (ab3 λh=>?_));have o:=h.2.2.2.2.2.2 i (by omega);unfold FK at o;simp [-List.getD_eq_getElem?_getD]at n;grind};simp only [band,ab6]at n;refine sk (rg [] rfl ?_);refine ⟨i+1,?_,?_,?_⟩;{exact ⟨by omega,all_succ a4 (by unfold FK;simp [-List.getD_eq_getElem?_getD]at n;grind)⟩};{refine eX cX trivial};(try simp only []);first | omega | grind};(have q:(i:Int)=s.count:=by simp [-List.getD_eq_getElem?_getD]at a0;omega);refine xt (sq (rg [] rfl ?_));refine rX ?_;refine fin1 hT (by rfl) (ads (acj ⟨hr.1,hr.2,λk h=>hn k (by omega) h,a5,u,a3,λk hk=>?_⟩));rcases acf k i with h | h;{exact a4 k h};intro e;rw [(u k hk).2 (by omega)]at e;cases e
section
variable {P:Program} {T:Nat->TI} {N:Nat}
theorem AC.of_calls {f:FuncId} {xs:List Value} {r:Value} {a:AV} (hc:callable P f) (g:∀ (I:fB) (ρ:Pl),fP T N I ρ a r)
 (h:∀ w:World,(∀ (b o n:Nat),(T b).glb[o]? = some n->w.cell? ⟨b,o,none⟩=some (.int .u8 n))->Calls P f xs.toArray w λe w'=>e = .returned r/\w'=w):AC P T N f (xs.map .v) [] a []:=by
 refine ⟨hc,λI ρ w vs hl j hw=>?_⟩;have e:vs=xs:=by refine List.ext_getElem (by simpa using hl) λi c d=>?_;have:=j i (.v xs[i]) vs[i] (by simp [d]) (by simp [c]);exact (this.v).1
 subst e;refine (h w (λb o n hg=>hw.imm _ _ _ (hw.gl b o n hg))).mono ?_;rintro e w' ⟨rfl,rfl⟩;exact ⟨r,I,ρ,rfl,Ev.refl _ _ _,g I ρ,hw⟩
theorem qc (hT:iZ P T N) {nt k j t i:Nat} {st:St} {y:AV} {a e:Int} {B:zh} (h:st.t k=some (.always,.ptr (.s j 0) 1 0 [])) (v:st.t i=some (.always,.int a)) (hm:st.m (.s j 0)=some (.cells B)) (u:Conv st.m (λid=>dL id []) T (B.get 0) y) (he:a=e)
 (p:fC y=true:=by rfl) (q:fE [.s j 0] y=true:=by rfl) (g:oW y=true:=by rfl) (d:Nat.beq i k=false:=by rfl) (o:B.ty=t:=by rfl) (hn:B.n=1:=by rfl) (b:B.fz=0:=by rfl):Fin T N nt 0 [.cell k t,.tmp i] (.tup [y,.int e]) [] st:=by
 obtain ⟨ty,n,get,fz⟩:=B;simp only at o hn b u;subst o hn b he;refine Fin.ent (tV.mk (P:=P) hT [] (ts:=[(k,.ptr (.s j 0) 1 0 []),(i,.int a)]) (ms:=[(.s j 0,.cells ⟨ty,1,λ_=>y,0⟩)]) trivial ⟨⟨by simp [fE,gY,aQ],_,h,ah rfl⟩,⟨rfl,_,v,ah rfl⟩,tt⟩ ⟨⟨λ_ _=>q,.inl ⟨_,hm,_,_,rfl,aa1 _,abr _,abr _,q0 u⟩⟩,tt⟩ rfl) ?_;have r:(aN [(k,AV.ptr (.s j 0) 1 0 []),(i,.int a)] [(.s j 0,Ob.cells ⟨ty,1,λ_=>y,0⟩)]).m (.s j 0)=some (.cells ⟨ty,1,λ_=>y,0⟩):=by simp [aN,mV,aQ]
 have f:Nat.beq k k=true:=by simp
 have c:Nat.beq i i=true:=by simp
 refine aH hT [(.s j 0,1)] (ts:=[(k,.rp ty y),(i,.int a)]) (l:=[y,.int a]) ⟨⟨_,r,aa1 _⟩,tt⟩ ⟨⟨rfl,.ptr (.s j 0) 1 0 [],by simp only [aN,lT,f];rfl,?_⟩,⟨rfl,_,by simp only [aN,lT,d,c];rfl,ah rfl⟩,tt⟩ trivial rfl ?_ rfl
 ·exact bH r rfl (by simp [dL,aQ]) rfl (by show y.at []=y;cases y <;> rfl) p
 ·simp only [yM,aN,lT,f,c,d,aco,aci,acP,Ue,zI,aW,nJ,g];have ht:Nat.beq ty ty=true:=by simp
  simp [Ue,ht,show oW (AV.int a)=true from rfl,nJ,fF,g]
theorem xH (hT:iZ P T N) {nt k j t d j' t' i:Nat} {st:St} {y c:AV} {a e:Int} {B B':zh} (h:st.t k=some (.always,.ptr (.s j 0) 1 0 [])) (h':st.t d=some (.always,.ptr (.s j' 0) 1 0 [])) (h2:st.t i=some (.always,.int a)) (hm:st.m (.s j 0)=some (.cells B)) (a4:st.m (.s j' 0)=some (.cells B'))
 (hy:Conv st.m (λid=>dL id []) T (B.get 0) y) (a2:Conv st.m (λid=>dL id []) T (B'.get 0) c) (he:a=e)
 (a5:fC y=true:=by rfl) (a7:fE [.s j 0,.s j' 0] y=true:=by rfl) (a6:oW y=true:=by rfl) (hno':fC c=true:=by rfl) (hok':fE [.s j 0,.s j' 0] c=true:=by rfl) (z:oW c=true:=by rfl) (v:Nat.beq i k=false:=by rfl) (g:Nat.beq i d=false:=by rfl) (o:Nat.beq d k=false:=by rfl) (a3:Nat.beq j' j=false:=by rfl)
 (a1:B.ty=t:=by rfl) (hn:B.n=1:=by rfl) (r:B.fz=0:=by rfl) (q:B'.ty=t':=by rfl) (x:B'.n=1:=by rfl) (f:B'.fz=0:=by rfl):Fin T N nt 0 [.cell k t,.cell d t',.tmp i] (.tup [y,c,.int e]) [] st:=by
 obtain ⟨ty,n,get,fz⟩:=B;obtain ⟨b,n',get',b4⟩:=B';simp only at a1 hn r hy q x f a2;subst a1 hn r he q x f;have w:Nat.beq k k=true:=by simp
 have p:Nat.beq d d=true:=by simp
 have u:Nat.beq i i=true:=by simp
 have a8:Id.beq (.s j 0) (.s j 0)=true:=aQ _;have a9:Id.beq (.s j' 0) (.s j' 0)=true:=aQ _
 have a0:Id.beq (.s j' 0) (.s j 0)=false:=by simp [Id.beq,a3]
 refine Fin.ent (tV.mk (P:=P) hT [] (ts:=[(k,.ptr (.s j 0) 1 0 []),(d,.ptr (.s j' 0) 1 0 []),(i,.int a)]) (ms:=[(.s j 0,.cells ⟨ty,1,λ_=>y,0⟩),(.s j' 0,.cells ⟨b,1,λ_=>c,0⟩)]) trivial ⟨⟨by simp [fE,gY,aQ],_,h,ah rfl⟩,⟨by simp [fE,gY,aQ],_,h',ah rfl⟩,⟨rfl,_,h2,ah rfl⟩,tt⟩
  ⟨⟨λ_ _=>a7,.inl ⟨_,hm,_,_,rfl,aa1 _,abr _,abr _,q0 hy⟩⟩,⟨λ_ _=>hok',.inl ⟨_,a4,_,_,rfl,aa1 _,abr _,abr _,q0 a2⟩⟩,tt⟩ rfl) ?_
 have h1:(aN [(k,AV.ptr (.s j 0) 1 0 []),(d,.ptr (.s j' 0) 1 0 []),(i,.int a)] [(.s j 0,Ob.cells ⟨ty,1,λ_=>y,0⟩),(.s j' 0,Ob.cells ⟨b,1,λ_=>c,0⟩)]).m (.s j 0)=some (.cells ⟨ty,1,λ_=>y,0⟩):=by simp only [aN,mV,a8];rfl
 have h3:(aN [(k,AV.ptr (.s j 0) 1 0 []),(d,.ptr (.s j' 0) 1 0 []),(i,.int a)] [(.s j 0,Ob.cells ⟨ty,1,λ_=>y,0⟩),(.s j' 0,Ob.cells ⟨b,1,λ_=>c,0⟩)]).m (.s j' 0)=some (.cells ⟨b,1,λ_=>c,0⟩):=by simp only [aN,mV,a9,a0];rfl
 refine aH hT [(.s j 0,1),(.s j' 0,1)] (ts:=[(k,.rp ty y),(d,.rp b c),(i,.int a)]) (l:=[y,c,.int a]) ⟨⟨_,h1,aa1 _⟩,⟨_,h3,aa1 _⟩,tt⟩
  ⟨⟨rfl,.ptr (.s j 0) 1 0 [],by simp only [aN,lT,w];rfl,?_⟩,⟨rfl,.ptr (.s j' 0) 1 0 [],by simp only [aN,lT,o,p];rfl,?_⟩,⟨rfl,_,by simp only [aN,lT,v,g,u];rfl,ah rfl⟩,tt⟩ trivial rfl ?_ rfl
 ·exact bH h1 rfl (by simp [dL,aQ]) rfl (by show y.at []=y;cases y <;> rfl) a5
 ·exact bH h3 rfl (by simp [dL,a0,aQ]) rfl (by show c.at []=c;cases c <;> rfl) hno'
 ·have ht:Nat.beq ty ty=true:=by simp
  have b0:Nat.beq b b=true:=by simp
  simp only [yM,aN,lT,w,p,o,u,v,g,aco,aci,acP];simp [Ue,ht,b0,show oW (AV.int a)=true from rfl,nJ,fF,a6,z]
end
end Go.Ab
