/- Part 16 of a proof of a statement about the given program: an abstract machine over the model, proved sound, and contracts of the functions that the statement reaches; the last part proves the statement, for every input, with no condition. -/
import Derived.Test.YtcfelhfcjdofoaaGreatDoorX14
import Derived.Test.YtcfelhfcjdofoaaGreatDoorX13
set_option autoImplicit false
set_option linter.unusedSimpArgs false
set_option linter.unusedVariables false
set_option maxHeartbeats 4000000
set_option maxRecDepth 20000
namespace Go.Ab
open Go.Proofs
def ints (f:Bool) (l:List Int):AV := .row 3 f l.length (λi => .int (l.getD i 0))
def ac7 (a b:List Int) (i:Nat):Prop := ∀ j,j<i->a.getD j 0=b.getD j 0
theorem Nz (f g:Bool) (a b:List Int):AC Tryz.prog T aI 32 [ints f a,ints g b] [] (.bool (decide (a=b))) []:=by
 refine aX Tryz.func32 ?_;refine WP.rowlen 0 rfl (λn=>?_);refine WP.seq (WP.reg hT hE [] rfl ?_ ?_)
 ·trivial
 dsimp only [tK];refine WP.seq (WP.seq ?_);refine WP.reg hT hE [] rfl ?_ ?_
 ·trivial
 dsimp only [tK];refine WP.cond rfl (λh=>?_) (λh=>?_)
 ·refine WP.seq (WP.reg hT hE [] rfl ?_ ?_);{trivial};refine WP.ret ?_;refine ⟨[(4,.bool (decide (a=b)))],uM.mk hT [] trivial ⟨⟨rfl,_,rfl,ah ?_⟩,tt⟩ trivial rfl,_,rfl,trivial,rfl⟩;(have:a≠b:=by rintro rfl;simp at h);simp [this]
 refine WP.skip ?_;dsimp only [tK];(have hlen:a.length=b.length:=by simp at h;omega);refine WP.seq (WP.seq ?_);refine WP.reg hT hE [] rfl ?_ ?_;{trivial};dsimp only [tK];refine WP.block ?_;refine WP.loop (α:=Nat) (λi=>aN [(0,ints f a),(1,ints g b),(12,.int a.length),(13,.int i)] []) (λi=>i<=a.length/\ac7 a b i) (λi=>a.length - i) ?_ ?_;{refine ⟨0,⟨abO _,λj m=>by omega⟩,uM.mk hT [] trivial ?_ trivial rfl⟩;exact ⟨⟨rfl,_,rfl,ah rfl⟩,⟨rfl,_,rfl,ah rfl⟩,⟨rfl,_,rfl,ah rfl⟩,⟨rfl,_,rfl,ah rfl⟩,tt⟩};rintro i ⟨hi,c⟩;refine WP.seq (WP.reg hT hE [] rfl ?_ ?_);{trivial};dsimp only [tK];refine WP.seq (WP.cond rfl (λh=>?_) (λh=>?_));{refine WP.skip ?_;dsimp only [tK];(have d:i<a.length:=by simpa using h);refine WP.seq (WP.block ?_);refine WP.seq (WP.reg hT hE [] rfl ?_ ?_);{trivial};dsimp only [tK];refine WP.seq (WP.drw hT hE hM [] rfl ?_ ?_);{simp only [ay,under];omega};dsimp only [tK];refine WP.cond rfl (λh=>?_) (λh=>?_);{refine WP.seq (WP.reg hT hE [] rfl ?_ ?_);{trivial};refine WP.ret ?_;refine ⟨[(4,.bool (decide (a=b)))],uM.mk hT [] trivial ⟨⟨rfl,_,rfl,ah ?_⟩,tt⟩ trivial rfl,_,rfl,trivial,rfl⟩;(have:a≠b:=by rintro rfl;simp at h);simp [this]};refine WP.skip ?_;dsimp only [VG,tK];refine WP.reg hT hE [] rfl ?_ ?_;{trivial};dsimp only [tK];refine ⟨i+1,⟨d,λj m=>?_⟩,uM.mk hT [] trivial ?_ trivial rfl,by omega⟩;{rcases adf j i with e | e;{exact c j e};(have:j=i:=by omega);subst this;simpa using h};refine ⟨⟨rfl,_,rfl,ah rfl⟩,⟨rfl,_,rfl,ah rfl⟩,⟨rfl,_,rfl,ah rfl⟩,⟨rfl,_,rfl,ah ?_⟩,tt⟩;rw [bK (by omega) (by omega)];simp};refine WP.exit ?_;dsimp only [tK,VG];(have d:i=a.length:=by simp at h;omega);refine WP.seq (WP.reg hT hE [] rfl ?_ ?_);{trivial};refine WP.ret ?_;refine ⟨[(4,.bool (decide (a=b)))],uM.mk hT [] trivial ⟨⟨rfl,_,rfl,ah ?_⟩,tt⟩ trivial rfl,_,rfl,trivial,rfl⟩;(have:a=b:=by refine List.ext_getElem hlen (λj k l=>?_);have:=c j (by omega);simpa [k,l]using this);simp [this]
theorem bn {P:Program} {T:Nat->TI} {N nt:Nat} (hT:jf P T N) {t:Nat->Option (D×AV)} {m:Id->Option Ob} {k:Nat} {b r:Int} (h:t k=some (.always,.v (.int .i64 b))) (e:b=r):Fin T N nt 0 [.tmp k] (.int r) [] ⟨t,m⟩:=by
 subst e;refine ⟨[(k,.int b)],uM.mk hT [] trivial ⟨⟨rfl,_,h,ah rfl⟩,tt⟩ trivial rfl,([.int b],none),?_,trivial,rfl⟩;simp [zS,aN,oz,rZ]
theorem fE (a b:Bool):(bif a then true else b)=(a||b):=by cases a <;> rfl
theorem band (a b:Bool):(bif a then b else false)=(a&&b):=by cases a <;> rfl
structure ab5 where
 atomic:Bool
 init:Int
structure iG where
 op:Int
 a:Int
 b:Int
 c:Int
 n:Int
structure zu where
 send:Bool
 chan:Int
 reg:Int
 to:Int
structure uF where
 cases:List zu
 els:Int
structure fZ where
 params:Int
 regs:Int
 code:List iG
 sels:List uF
structure aj where
 vars:List ab5
 locks:Int
 chans:List Int
 funcs:List fZ
def LX (x:ab5):AV:=bI 116 [.bool x.atomic,.int x.init]
def aU (x:iG):AV:=bI 120 [.int x.op,.int x.a,.int x.b,.int x.c,.int x.n]
def qo (x:zu):AV:=bI 215 [.bool x.send,.int x.chan,.int x.reg,.int x.to]
def rowP {α:Type} (t:Nat) (enc:α->AV) (d:α) (l:List α):AV := .row t false l.length (λi=>enc (l.getD i d))
def EP:zu:=⟨false,0,0,0⟩
def jK (x:uF):AV:=bI 103 [rowP 215 qo EP x.cases,.int x.els]
def nR:iG:=⟨0,0,0,0,0⟩
def xw:uF:=⟨[],0⟩
def jA (x:fZ):AV:=bI 100 [.int x.params,.int x.regs,rowP 120 aU nR x.code,rowP 103 jK xw x.sels]
def MR:ab5:=⟨false,0⟩
def lI:fZ:=⟨0,0,[],[]⟩
def ak (x:aj):AV:=bI 26 [rowP 116 LX MR x.vars,.int x.locks,ints false x.chans,rowP 100 jA lI x.funcs]
def zi (p:aj) (f:fZ):AV:=bI 257 [ak p,jA f]
def dI (n most:Int):Bool:=decide (n>=0)&&decide (n<most)
theorem Dv (n m:Int):AC Tryz.prog T aI 260 [.int n,.int m] [] (.bool (dI n m)) []:=by
 refine aX Tryz.func260 ?_;refine sg rfl (sg rfl ?_);refine rX ?_;exact fin1 hT (by rfl) (by rw [band];rfl)
theorem iR (n m:Int):AC Tryz.prog T aI 150 [.int n,.int m] [] (.bool (dI n m)) []:=by
 refine aX Tryz.func150 ?_;refine sg rfl (sg rfl ?_);refine rX ?_;exact fin1 hT (by rfl) (by rw [band];rfl)
def dL (n most:Int):Int:=if dI n most then 0 else 36
def eH (f:fZ) (n:Int):Int:=if dI n f.regs then 0 else 35
def dZ (f:fZ) (n:Int):Int:=if dI n f.code.length then 0 else 38
theorem qP (n m:Int):AC Tryz.prog T aI 212 [.int n,.int m] [] (.int (dL n m)) []:=by
 refine aX Tryz.func212 ?_;refine sg rfl (sq (sq (rgs [CG.pure (.bool (dI n m))] rfl ?_ ?_)))
 ·exact Dv n m
 refine cd rfl (λa=>?_) (λa=>?_)
 ·(have h:dI n m=false:=by simpa using a);exact sg rfl (WP.ret (bn hT (by rfl) (by simp [dL,h])))
 (have h:dI n m=true:=by simpa using a);refine sk (sq (rg [] rfl ?_));exact WP.ret (bn hT (by rfl) (by simp [dL,h]))
theorem uT (p:aj) (f:fZ) (n:Int):AC Tryz.prog T aI 213 [.rp 257 (zi p f),.int n] [] (.int (eH f n)) []:=by
 refine aX Tryz.func213 ?_;refine sg rfl (sq (sq (rgs [CG.pure (.bool (dI n f.regs))] rfl ?_ ?_)))
 ·exact Dv n f.regs
 refine cd rfl (λa=>?_) (λa=>?_)
 ·(have h:dI n f.regs=false:=by simpa using a);exact sg rfl (WP.ret (bn hT (by rfl) (by simp [eH,h])))
 (have h:dI n f.regs=true:=by simpa using a);refine sk (sq (rg [] rfl ?_));exact WP.ret (bn hT (by rfl) (by simp [eH,h]))
theorem zy (p:aj) (f:fZ) (n:Int):AC Tryz.prog T aI 214 [.rp 257 (zi p f),.int n] [] (.int (dZ f n)) []:=by
 refine aX Tryz.func214 ?_;refine sg rfl (sq (sq (rgs [CG.pure (.bool (dI n f.code.length))] rfl ?_ ?_)))
 ·exact Dv n f.code.length
 refine cd rfl (λa=>?_) (λa=>?_)
 ·(have h:dI n f.code.length=false:=by simpa using a);exact sg rfl (WP.ret (bn hT (by rfl) (by simp [dZ,h])))
 (have h:dI n f.code.length=true:=by simpa using a);refine sk (sq (rg [] rfl ?_));exact WP.ret (bn hT (by rfl) (by simp [dZ,h]))
def kF (f:fZ) (n k:Int):Int:=if (k==0&&n != 0)||(decide (k>0)&&(decide (n<0)||decide (n>IntKind.i64.wrap (f.regs - k))))then 35 else 0
def dw (p:aj) (n:Int):Int:=if dI n p.vars.length then (if (p.vars.getD n.toNat MR).atomic then 0 else 37)else 36
def aS (p:aj) (f:fZ) (c n:Int) (x:iG):Int :=
 if c=111 then (if n = -1 then 0 else eH f n)else if c=114 then eH f n else if c=119 then eH f n else
 if c=118 then dL n p.vars.length else if c=97 then dw p n else if c=108 then dL n p.locks else
 if c=99 then dL n p.chans.length else if c=115 then dL n f.sels.length else if c=102 then dL n p.funcs.length else
 if c=116 then dZ f n else if c=112 then kF f n (p.funcs.getD x.b.toNat lI).params else 0
theorem rD {n m:Int} (h:dL n m=0):0<=n/\n<m:=by
 unfold dL at h;split at h
 ·rename_i hw;simpa [dI]using hw
 cases h
theorem QC (p:aj) (f:fZ) (c n:Int) (x:iG) (hx:c=112->0<=x.b/\x.b<p.funcs.length):AC Tryz.prog T aI 217 [.rp 257 (zi p f),.v (.int .u8 c),.int n,aU x] [] (.int (aS p f c n x)) []:=by
 refine aX Tryz.func217 ?_;refine sg rfl (sq (sq (rg [] rfl ?_)));refine bk (sq (rg [] rfl ?_));refine cd rfl (λr=>?_) (λr=>?_)
 ·refine sq (sq (rg [] rfl ?_));refine cd rfl (λs=>?_) (λs=>?_);{refine sg rfl (rX ?_);refine bn hT (by rfl) ?_;first | (simp_all [aS];done) | (simp_all [aS,dw,dL];done) | (simp_all [aS,dw,dL,kF,fE,band];done)};refine sk (sq (rgs [CG.pure (.int (eH f n))] rfl ?_ ?_));{exact uT p f n};refine rX ?_;refine bn hT (by rfl) ?_;first | (simp_all [aS];done) | (simp_all [aS,dw,dL];done) | (simp_all [aS,dw,dL,kF,fE,band];done)
 refine sq (sq (rg [] rfl ?_));refine cd rfl (λq=>?_) (λq=>?_);{refine sk (cd rfl (λq=>?_) (λq=>?_));{refine sq (rgs [CG.pure (.int (eH f n))] rfl ?_ ?_);{exact uT p f n};refine rX ?_;refine bn hT (by rfl) ?_;first | (simp_all [aS];done) | (simp_all [aS,dw,dL];done) | (simp_all [aS,dw,dL,kF,fE,band];done)};simp_all};refine rg [] rfl (cd rfl (λt=>?_) (λt=>?_));{refine sq (rgs [CG.pure (.int (eH f n))] rfl ?_ ?_);{exact uT p f n};refine rX ?_;refine bn hT (by rfl) ?_;first | (simp_all [aS];done) | (simp_all [aS,dw,dL];done) | (simp_all [aS,dw,dL,kF,fE,band];done)};refine sg rfl (cd rfl (λu=>?_) (λu=>?_));{refine sq (sq (rgs [CG.pure (.int (dL n p.vars.length))] rfl ?_ ?_));{exact qP n p.vars.length};refine sg rfl (cd rfl (λe=>?_) (λe=>?_));{refine sg rfl (rX ?_);refine bn hT (by rfl) ?_;first | (simp_all [aS];done) | (simp_all [aS,dw,dL];done) | (simp_all [aS,dw,dL,kF,fE,band];done)};refine sk (sq (rg [] rfl ?_));refine rX ?_;refine bn hT (by rfl) ?_;first | (simp_all [aS];done) | (simp_all [aS,dw,dL];done) | (simp_all [aS,dw,dL,kF,fE,band];done)};refine sg rfl (cd rfl (λg=>?_) (λg=>?_));{refine sq (sq (rgs [CG.pure (.int (dL n p.vars.length))] rfl ?_ ?_));{exact qP n p.vars.length};refine sg rfl (cd rfl (λa=>?_) (λa=>?_));{refine sg rfl (rX ?_);refine bn hT (by rfl) ?_;first | (simp_all [aS];done) | (simp_all [aS,dw,dL];done) | (simp_all [aS,dw,dL,kF,fE,band];done)};have w:=rD (show dL n p.vars.length=0 by simpa using a);refine sk (sq (rgs [] rfl ?_ ?_));{simp [ay,under];omega};refine cd rfl (λh=>?_) (λh=>?_);{refine sg rfl (rX ?_);refine bn hT (by rfl) ?_;first | (simp_all [aS];done) | (simp_all [aS,dw,dL];done) | (simp_all [aS,dw,dL,kF,fE,band];done)};refine sk (sq (rg [] rfl ?_));refine rX ?_;refine bn hT (by rfl) ?_;first | (simp_all [aS];done) | (simp_all [aS,dw,dL];done) | (simp_all [aS,dw,dL,kF,fE,band];done)};refine sg rfl (cd rfl (λi=>?_) (λi=>?_));{refine sq (rgs [CG.pure (.int (dL n p.locks))] rfl ?_ ?_);{exact qP n p.locks};refine rX ?_;refine bn hT (by rfl) ?_;first | (simp_all [aS];done) | (simp_all [aS,dw,dL];done) | (simp_all [aS,dw,dL,kF,fE,band];done)};refine sg rfl (cd rfl (λj=>?_) (λj=>?_));{refine sq (rgs [CG.pure (.int (dL n p.chans.length))] rfl ?_ ?_);{exact qP n p.chans.length};refine rX ?_;refine bn hT (by rfl) ?_;first | (simp_all [aS];done) | (simp_all [aS,dw,dL];done) | (simp_all [aS,dw,dL,kF,fE,band];done)};refine sg rfl (cd rfl (λk=>?_) (λk=>?_));{refine sq (rgs [CG.pure (.int (dL n f.sels.length))] rfl ?_ ?_);{exact qP n f.sels.length};refine rX ?_;refine bn hT (by rfl) ?_;first | (simp_all [aS];done) | (simp_all [aS,dw,dL];done) | (simp_all [aS,dw,dL,kF,fE,band];done)};refine sg rfl (cd rfl (λl=>?_) (λl=>?_));{refine sq (rgs [CG.pure (.int (dL n p.funcs.length))] rfl ?_ ?_);{exact qP n p.funcs.length};refine rX ?_;refine bn hT (by rfl) ?_;first | (simp_all [aS];done) | (simp_all [aS,dw,dL];done) | (simp_all [aS,dw,dL,kF,fE,band];done)};refine sg rfl (cd rfl (λm=>?_) (λm=>?_));{refine sq (rgs [CG.pure (.int (dZ f n))] rfl ?_ ?_);{exact zy p f n};refine rX ?_;refine bn hT (by rfl) ?_;first | (simp_all [aS];done) | (simp_all [aS,dw,dL];done) | (simp_all [aS,dw,dL,kF,fE,band];done)};refine sg rfl (cd rfl (λd=>?_) (λd=>?_));{have hb:=hx (by simpa using d);refine sq (drs [] rfl ?_ ?_);{simp [ay,under];omega};refine sg rfl (cd rfl (λo=>?_) (λo=>?_));{refine sg rfl (rX ?_);refine bn hT (by rfl) ?_;first | (simp_all [aS];done) | (simp_all [aS,dw,dL];done) | (simp_all [aS,dw,dL,kF,fE,band];done)};refine sk (sq (rg [] rfl ?_));refine rX ?_;refine bn hT (by rfl) ?_;first | (simp_all [aS];done) | (simp_all [aS,dw,dL];done) | (simp_all [aS,dw,dL,kF,fE,band];done)};refine sk (sq (rg [] rfl ?_));refine rX ?_;refine bn hT (by rfl) ?_;first | (simp_all [aS];done) | (simp_all [aS,dw,dL];done) | (simp_all [aS,dw,dL,kF,fE,band];done)
theorem NK (p:aj) (f:fZ) (c n:Int) (x:iG) (hx:c=112->0<=x.b/\x.b<p.funcs.length):AC Tryz.prog T aI 153 [ak p,jA f,.v (.int .u8 c),.int n,aU x] [] (.int (aS p f c n x)) []:=by
 refine aX Tryz.func153 ?_;refine sg rfl (sq (sq (rg [] rfl ?_)));refine bk (sq (sq (rg [] rfl ?_)));refine cd rfl (λk=>?_) (λk=>?_)
 ·refine sk (cd rfl (λk=>?_) (λk=>?_));{refine sq (rgs [CG.pure (.bool (dI n f.regs))] rfl ?_ ?_);{simp [ay,under,CG.pure];exact iR n f.regs};refine cd rfl (λz=>?_) (λz=>?_);{refine sg rfl (rX ?_);refine bn hT (by rfl) ?_;first | (simp_all [aS,eH,dZ];done) | (simp_all [aS,dw,dL,eH,dZ];done) | (simp_all [aS,dw,dL,kF,fE,band,eH,dZ];done)};refine sk (sq (rg [] rfl ?_));refine rX ?_;refine bn hT (by rfl) ?_;first | (simp_all [aS,eH,dZ];done) | (simp_all [aS,dw,dL,eH,dZ];done) | (simp_all [aS,dw,dL,kF,fE,band,eH,dZ];done)};simp_all
 refine rg [] rfl (cd rfl (λh3=>?_) (λh3=>?_));{refine sq (rgs [CG.pure (.bool (dI n f.regs))] rfl ?_ ?_);{simp [ay,under,CG.pure];exact iR n f.regs};refine cd rfl (λz=>?_) (λz=>?_);{refine sg rfl (rX ?_);refine bn hT (by rfl) ?_;first | (simp_all [aS,eH,dZ];done) | (simp_all [aS,dw,dL,eH,dZ];done) | (simp_all [aS,dw,dL,kF,fE,band,eH,dZ];done)};refine sk (sq (rg [] rfl ?_));refine rX ?_;refine bn hT (by rfl) ?_;first | (simp_all [aS,eH,dZ];done) | (simp_all [aS,dw,dL,eH,dZ];done) | (simp_all [aS,dw,dL,kF,fE,band,eH,dZ];done)};refine sg rfl (cd rfl (λh6=>?_) (λh6=>?_));{refine sq (rgs [CG.pure (.bool (dI n f.regs))] rfl ?_ ?_);{have hw:=iR n f.regs;simp [ay,under,CG.pure];exact λ_=>hw};refine cd rfl (λh7=>?_) (λh7=>?_);{refine sg rfl (rX ?_);refine bn hT (by rfl) ?_;first | (simp_all [aS,eH,dZ];done) | (simp_all [aS,dw,dL,eH,dZ];done) | (simp_all [aS,dw,dL,kF,fE,band,eH,dZ];done)};refine sk (sq (rg [] rfl ?_));refine rX ?_;refine bn hT (by rfl) ?_;first | (simp_all [aS,eH,dZ];done) | (simp_all [aS,dw,dL,eH,dZ];done) | (simp_all [aS,dw,dL,kF,fE,band,eH,dZ];done)};refine sg rfl (cd rfl (λh9=>?_) (λh9=>?_));{have hb:=hx (by simpa using h9);refine sq (rgs [] rfl ?_ ?_);{simp [ay,under];omega};refine sg rfl (cd rfl (λd=>?_) (λd=>?_));{refine sg rfl (rX ?_);refine bn hT (by rfl) ?_;first | (simp_all [aS,eH,dZ];done) | (simp_all [aS,dw,dL,eH,dZ];done) | (simp_all [aS,dw,dL,kF,fE,band,eH,dZ];done)};refine sk (sq (rg [] rfl ?_));refine rX ?_;refine bn hT (by rfl) ?_;first | (simp_all [aS,eH,dZ];done) | (simp_all [aS,dw,dL,eH,dZ];done) | (simp_all [aS,dw,dL,kF,fE,band,eH,dZ];done)};refine sg rfl (cd rfl (λg=>?_) (λg=>?_));{refine sq (rgs [CG.pure (.bool (dI n p.vars.length))] rfl ?_ ?_);{have hw:=iR n p.vars.length;simp [ay,under,CG.pure];exact hw};refine cd rfl (λh=>?_) (λh=>?_);{refine sg rfl (rX ?_);refine bn hT (by rfl) ?_;first | (simp_all [aS,eH,dZ];done) | (simp_all [aS,dw,dL,eH,dZ];done) | (simp_all [aS,dw,dL,kF,fE,band,eH,dZ];done)};refine sk (sq (rg [] rfl ?_));refine rX ?_;refine bn hT (by rfl) ?_;first | (simp_all [aS,eH,dZ];done) | (simp_all [aS,dw,dL,eH,dZ];done) | (simp_all [aS,dw,dL,kF,fE,band,eH,dZ];done)};refine sg rfl (cd rfl (λi=>?_) (λi=>?_));{refine sq (sq (rgs [CG.pure (.bool (dI n p.vars.length))] rfl ?_ ?_));{have hw:=iR n p.vars.length;simp [ay,under,CG.pure];exact hw};refine cd rfl (λa=>?_) (λa=>?_);{refine sg rfl (rX ?_);refine bn hT (by rfl) ?_;first | (simp_all [aS,eH,dZ];done) | (simp_all [aS,dw,dL,eH,dZ];done) | (simp_all [aS,dw,dL,kF,fE,band,eH,dZ];done)};(have hv:0<=n/\n<p.vars.length:=by(have e:dI n p.vars.length=true:=by simpa using a);simpa [dI]using e);refine sk (sq (rgs [] rfl ?_ ?_));{simp [ay,under];omega};refine cd rfl (λj=>?_) (λj=>?_);{refine sg rfl (rX ?_);refine bn hT (by rfl) ?_;first | (simp_all [aS,eH,dZ];done) | (simp_all [aS,dw,dL,eH,dZ];done) | (simp_all [aS,dw,dL,kF,fE,band,eH,dZ];done)};refine sk (sq (rg [] rfl ?_));refine rX ?_;refine bn hT (by rfl) ?_;first | (simp_all [aS,eH,dZ];done) | (simp_all [aS,dw,dL,eH,dZ];done) | (simp_all [aS,dw,dL,kF,fE,band,eH,dZ];done)};refine sg rfl (cd rfl (λl=>?_) (λl=>?_));{refine sq (rgs [CG.pure (.bool (dI n p.locks))] rfl ?_ ?_);{have hw:=iR n p.locks;simp [ay,under,CG.pure];exact hw};refine cd rfl (λm=>?_) (λm=>?_);{refine sg rfl (rX ?_);refine bn hT (by rfl) ?_;first | (simp_all [aS,eH,dZ];done) | (simp_all [aS,dw,dL,eH,dZ];done) | (simp_all [aS,dw,dL,kF,fE,band,eH,dZ];done)};refine sk (sq (rg [] rfl ?_));refine rX ?_;refine bn hT (by rfl) ?_;first | (simp_all [aS,eH,dZ];done) | (simp_all [aS,dw,dL,eH,dZ];done) | (simp_all [aS,dw,dL,kF,fE,band,eH,dZ];done)};refine sg rfl (cd rfl (λo=>?_) (λo=>?_));{refine sq (rgs [CG.pure (.bool (dI n p.chans.length))] rfl ?_ ?_);{have hw:=iR n p.chans.length;simp [ay,under,CG.pure];exact hw};refine cd rfl (λq=>?_) (λq=>?_);{refine sg rfl (rX ?_);refine bn hT (by rfl) ?_;first | (simp_all [aS,eH,dZ];done) | (simp_all [aS,dw,dL,eH,dZ];done) | (simp_all [aS,dw,dL,kF,fE,band,eH,dZ];done)};refine sk (sq (rg [] rfl ?_));refine rX ?_;refine bn hT (by rfl) ?_;first | (simp_all [aS,eH,dZ];done) | (simp_all [aS,dw,dL,eH,dZ];done) | (simp_all [aS,dw,dL,kF,fE,band,eH,dZ];done)};refine sg rfl (cd rfl (λr=>?_) (λr=>?_));{refine sq (rgs [CG.pure (.bool (dI n f.sels.length))] rfl ?_ ?_);{have hw:=iR n f.sels.length;simp [ay,under,CG.pure];exact hw};refine cd rfl (λs=>?_) (λs=>?_);{refine sg rfl (rX ?_);refine bn hT (by rfl) ?_;first | (simp_all [aS,eH,dZ];done) | (simp_all [aS,dw,dL,eH,dZ];done) | (simp_all [aS,dw,dL,kF,fE,band,eH,dZ];done)};refine sk (sq (rg [] rfl ?_));refine rX ?_;refine bn hT (by rfl) ?_;first | (simp_all [aS,eH,dZ];done) | (simp_all [aS,dw,dL,eH,dZ];done) | (simp_all [aS,dw,dL,kF,fE,band,eH,dZ];done)};refine sg rfl (cd rfl (λt=>?_) (λt=>?_));{refine sq (rgs [CG.pure (.bool (dI n p.funcs.length))] rfl ?_ ?_);{have hw:=iR n p.funcs.length;simp [ay,under,CG.pure];exact hw};refine cd rfl (λu=>?_) (λu=>?_);{refine sg rfl (rX ?_);refine bn hT (by rfl) ?_;first | (simp_all [aS,eH,dZ];done) | (simp_all [aS,dw,dL,eH,dZ];done) | (simp_all [aS,dw,dL,kF,fE,band,eH,dZ];done)};refine sk (sq (rg [] rfl ?_));refine rX ?_;refine bn hT (by rfl) ?_;first | (simp_all [aS,eH,dZ];done) | (simp_all [aS,dw,dL,eH,dZ];done) | (simp_all [aS,dw,dL,kF,fE,band,eH,dZ];done)};refine sg rfl (cd rfl (λw=>?_) (λw=>?_));{refine sq (rgs [CG.pure (.bool (dI n f.code.length))] rfl ?_ ?_);{have hw:=iR n f.code.length;simp [ay,under,CG.pure];exact hw};refine cd rfl (λy=>?_) (λy=>?_);{refine sg rfl (rX ?_);refine bn hT (by rfl) ?_;first | (simp_all [aS,eH,dZ];done) | (simp_all [aS,dw,dL,eH,dZ];done) | (simp_all [aS,dw,dL,kF,fE,band,eH,dZ];done)};refine sk (sq (rg [] rfl ?_));refine rX ?_;refine bn hT (by rfl) ?_;first | (simp_all [aS,eH,dZ];done) | (simp_all [aS,dw,dL,eH,dZ];done) | (simp_all [aS,dw,dL,kF,fE,band,eH,dZ];done)};refine sk (sq (rg [] rfl ?_));refine rX ?_;refine bn hT (by rfl) ?_;first | (simp_all [aS,eH,dZ];done) | (simp_all [aS,dw,dL,eH,dZ];done) | (simp_all [aS,dw,dL,kF,fE,band,eH,dZ];done)
theorem jM {P:Program} {T:Nat->TI} {N nt:Nat} (hT:jf P T N) {t:Nat->Option (D×AV)} {m:Id->Option Ob} {k:Nat} {b r:ByteArray} (h:t k=some (.always,.v (.string b))) (e:b=r):Fin T N nt 0 [.tmp k] (.v (.string r)) [] ⟨t,m⟩:=by
 subst e;refine ⟨[(k,.v (.string b))],uM.mk hT [] trivial ⟨⟨rfl,_,h,ah rfl⟩,tt⟩ trivial rfl,([.v (.string b)],none),?_,trivial,rfl⟩;simp [zS,aN,oz,rZ]
def jT (op:Int):List UInt8 :=
 if 1<=op/\op<=15 then [114,114,45,45]else if 16<=op/\op<=36 then [114,114,114,45]else
 if op=40\/op=44\/op=65 then [114,45,45,110]else if op=41 then [114,114,45,45]else if op=42 then [116,45,45,45]else
 if op=43 then [114,116,45,45]else if op=45\/op=64 then [45,45,45,45]else if op=50 then [114,118,45,45]else
 if op=51 then [118,114,45,45]else if op=52 then [111,97,114,45]else if op=53 then [114,97,114,119]else
 if op=54 then [97,114,45,45]else if op=55\/op=56 then [108,45,45,45]else if op=57 then [114,108,45,45]else
 if op=58 then [99,114,45,45]else if op=59 then [111,99,111,45]else if op=60 then [99,45,45,45]else
 if op=61 then [115,45,45,45]else if op=62 then [111,102,112,45]else if op=63 then [114,45,45,45]else []
def oG (op:Int):ByteArray:=⟨(jT op).toArray⟩
theorem bT {op:Int} {l:List UInt8} (h:jT op=l):(⟨l.toArray⟩:ByteArray)=oG op:=by rw [oG,h]
theorem fm {Q:Prop} (h:Q:=by
 simp only [band,abh,aeQ,ab8,acK,ade,aci]at *;unfold jT;all_goals (repeat (first | rfl | (rw [MC (by omega)]) | (rw [aaW (by omega)])))):Q:=h
theorem aap (op:Int):AC Tryz.prog T aI 215 [.int op] [] (.v (.string (oG op))) []:=by
 refine aX Tryz.func215 ?_;refine sg rfl (sq (bk (sq (rg [] rfl ?_))));refine cd rfl (λw=>?_) (λw=>?_)
 ·exact sg rfl (WP.ret (jM hT (by rfl) (bT fm)))
 refine sg rfl (cd rfl (λx=>?_) (λx=>?_));{exact sg rfl (WP.ret (jM hT (by rfl) (bT fm)))};refine sk (sq (sq (rg [] rfl ?_)));refine bk (sq (sq (rg [] rfl ?_)));refine cd rfl (λt=>?_) (λt=>?_);{refine sk (cd rfl (λt=>?_) (λt=>?_));{exact sg rfl (WP.ret (jM hT (by rfl) (bT fm)))};simp_all};refine sg rfl (cd rfl (λu=>?_) (λu=>?_));{refine sk (cd rfl (λu=>?_) (λu=>?_));{exact sg rfl (WP.ret (jM hT (by rfl) (bT fm)))};simp_all};refine rg [] rfl (cd rfl (λy=>?_) (λy=>?_));{exact sg rfl (WP.ret (jM hT (by rfl) (bT fm)))};refine sg rfl (cd rfl (λc=>?_) (λc=>?_));{exact sg rfl (WP.ret (jM hT (by rfl) (bT fm)))};refine sg rfl (cd rfl (λd=>?_) (λd=>?_));{exact sg rfl (WP.ret (jM hT (by rfl) (bT fm)))};refine sg rfl (cd rfl (λe=>?_) (λe=>?_));{exact sg rfl (WP.ret (jM hT (by rfl) (bT fm)))};refine sq (sq (rg [] rfl ?_));refine cd rfl (λa=>?_) (λa=>?_);{refine sk (cd rfl (λa=>?_) (λa=>?_));{exact sg rfl (WP.ret (jM hT (by rfl) (bT fm)))};simp_all};refine rg [] rfl (cd rfl (λf=>?_) (λf=>?_));{exact sg rfl (WP.ret (jM hT (by rfl) (bT fm)))};refine sg rfl (cd rfl (λg=>?_) (λg=>?_));{exact sg rfl (WP.ret (jM hT (by rfl) (bT fm)))};refine sg rfl (cd rfl (λh=>?_) (λh=>?_));{exact sg rfl (WP.ret (jM hT (by rfl) (bT fm)))};refine sg rfl (cd rfl (λi=>?_) (λi=>?_));{exact sg rfl (WP.ret (jM hT (by rfl) (bT fm)))};refine sg rfl (cd rfl (λj=>?_) (λj=>?_));{exact sg rfl (WP.ret (jM hT (by rfl) (bT fm)))};refine sg rfl (cd rfl (λk=>?_) (λk=>?_));{exact sg rfl (WP.ret (jM hT (by rfl) (bT fm)))};refine sq (sq (rg [] rfl ?_));refine cd rfl (λb=>?_) (λb=>?_);{refine sk (cd rfl (λb=>?_) (λb=>?_));{exact sg rfl (WP.ret (jM hT (by rfl) (bT fm)))};simp_all};refine rg [] rfl (cd rfl (λl=>?_) (λl=>?_));{exact sg rfl (WP.ret (jM hT (by rfl) (bT fm)))};refine sg rfl (cd rfl (λm=>?_) (λm=>?_));{exact sg rfl (WP.ret (jM hT (by rfl) (bT fm)))};refine sg rfl (cd rfl (λn=>?_) (λn=>?_));{exact sg rfl (WP.ret (jM hT (by rfl) (bT fm)))};refine sg rfl (cd rfl (λo=>?_) (λo=>?_));{exact sg rfl (WP.ret (jM hT (by rfl) (bT fm)))};refine sg rfl (cd rfl (λp=>?_) (λp=>?_));{exact sg rfl (WP.ret (jM hT (by rfl) (bT fm)))};refine sg rfl (cd rfl (λq=>?_) (λq=>?_));{exact sg rfl (WP.ret (jM hT (by rfl) (bT fm)))};refine sg rfl (cd rfl (λr=>?_) (λr=>?_));{exact sg rfl (WP.ret (jM hT (by rfl) (bT fm)))};refine sg rfl (cd rfl (λs=>?_) (λs=>?_));{exact sg rfl (WP.ret (jM hT (by rfl) (bT fm)))};refine sk (sq (rg [] rfl ?_));exact WP.ret (jM hT (by rfl) (bT fm))
theorem Xi (op:Int):AC Tryz.prog T aI 152 [.int op] [] (.v (.string (oG op))) []:=by
 refine aX Tryz.func152 ?_;refine sg rfl (sq (sq (rg [] rfl ?_)));refine cd rfl (λu=>?_) (λu=>?_)
 ·exact sg rfl (WP.ret (jM hT (by rfl) (bT fm)))
 refine sk (sq (sq (rg [] rfl ?_)));refine cd rfl (λw=>?_) (λw=>?_);{exact sg rfl (WP.ret (jM hT (by rfl) (bT fm)))};refine sk (sq (sq (rg [] rfl ?_)));refine bk (sq (rg [] rfl ?_));refine cd rfl (λx=>?_) (λx=>?_);{exact sg rfl (WP.ret (jM hT (by rfl) (bT fm)))};refine sg rfl (cd rfl (λy=>?_) (λy=>?_));{exact sg rfl (WP.ret (jM hT (by rfl) (bT fm)))};refine sg rfl (cd rfl (λb=>?_) (λb=>?_));{exact sg rfl (WP.ret (jM hT (by rfl) (bT fm)))};refine sg rfl (cd rfl (λc=>?_) (λc=>?_));{exact sg rfl (WP.ret (jM hT (by rfl) (bT fm)))};refine sg rfl (cd rfl (λd=>?_) (λd=>?_));{exact sg rfl (WP.ret (jM hT (by rfl) (bT fm)))};refine sg rfl (cd rfl (λe=>?_) (λe=>?_));{exact sg rfl (WP.ret (jM hT (by rfl) (bT fm)))};refine sg rfl (cd rfl (λf=>?_) (λf=>?_));{exact sg rfl (WP.ret (jM hT (by rfl) (bT fm)))};refine sg rfl (cd rfl (λg=>?_) (λg=>?_));{exact sg rfl (WP.ret (jM hT (by rfl) (bT fm)))};refine sg rfl (cd rfl (λh=>?_) (λh=>?_));{exact sg rfl (WP.ret (jM hT (by rfl) (bT fm)))};refine sg rfl (cd rfl (λi=>?_) (λi=>?_));{exact sg rfl (WP.ret (jM hT (by rfl) (bT fm)))};refine sg rfl (cd rfl (λj=>?_) (λj=>?_));{exact sg rfl (WP.ret (jM hT (by rfl) (bT fm)))};refine sq (sq (rg [] rfl ?_));refine cd rfl (λa=>?_) (λa=>?_);{refine sk (cd rfl (λa=>?_) (λa=>?_));{exact sg rfl (WP.ret (jM hT (by rfl) (bT fm)))};simp_all};refine rg [] rfl (cd rfl (λk=>?_) (λk=>?_));{exact sg rfl (WP.ret (jM hT (by rfl) (bT fm)))};refine sg rfl (cd rfl (λl=>?_) (λl=>?_));{exact sg rfl (WP.ret (jM hT (by rfl) (bT fm)))};refine sg rfl (cd rfl (λm=>?_) (λm=>?_));{exact sg rfl (WP.ret (jM hT (by rfl) (bT fm)))};refine sg rfl (cd rfl (λn=>?_) (λn=>?_));{exact sg rfl (WP.ret (jM hT (by rfl) (bT fm)))};refine sg rfl (cd rfl (λo=>?_) (λo=>?_));{exact sg rfl (WP.ret (jM hT (by rfl) (bT fm)))};refine sg rfl (cd rfl (λp=>?_) (λp=>?_));{exact sg rfl (WP.ret (jM hT (by rfl) (bT fm)))};refine sg rfl (cd rfl (λq=>?_) (λq=>?_));{exact sg rfl (WP.ret (jM hT (by rfl) (bT fm)))};refine sg rfl (cd rfl (λr=>?_) (λr=>?_));{exact sg rfl (WP.ret (jM hT (by rfl) (bT fm)))};refine sg rfl (cd rfl (λs=>?_) (λs=>?_));{exact sg rfl (WP.ret (jM hT (by rfl) (bT fm)))};refine sg rfl (cd rfl (λt=>?_) (λt=>?_));{exact sg rfl (WP.ret (jM hT (by rfl) (bT fm)))};refine sk (sq (rg [] rfl ?_));exact WP.ret (jM hT (by rfl) (bT fm))
def nP (op:Int):Bool:=(decide (op>=1)&&decide (op<=36))||(decide (op>=40)&&decide (op<=45))
def yF (op:Int):Bool:=decide (op>=50)&&decide (op<=65)
theorem DI (op:Int):AC Tryz.prog T aI 145 [.int op] [] (.bool (nP op)) []:=by
 refine aX Tryz.func145 ?_;refine sg rfl (sg rfl ?_);refine rX ?_;exact fin1 hT (by rfl) (by rw [band,band,fE];rfl)
theorem ND (op:Int):AC Tryz.prog T aI 151 [.int op] [] (.bool (yF op)) []:=by
 refine aX Tryz.func151 ?_;refine sg rfl (sg rfl ?_);refine rX ?_;exact fin1 hT (by rfl) (by rw [band];rfl)
def EY (x:iG):List Int:=[x.a,x.b,x.c,x.n]
def Xx (x:iG):AV:=kY 54 4 .i64 (EY x)
theorem CX {Q:List UInt8->Prop} (op:Int) (y:1<=op/\op<=15->Q [114,114,45,45]) (z:16<=op/\op<=36->Q [114,114,114,45]) (h2:op=40\/op=44\/op=65->Q [114,45,45,110]) (h3:op=41->Q [114,114,45,45]) (h4:op=42->Q [116,45,45,45]) (h5:op=43->Q [114,116,45,45]) (h6:op=45\/op=64->Q [45,45,45,45]) (h7:op=50->Q [114,118,45,45]) (h8:op=51->Q [118,114,45,45]) (h9:op=52->Q [111,97,114,45]) (o:op=53->Q [114,97,114,119]) (p:op=54->Q [97,114,45,45]) (q:op=55\/op=56->Q [108,45,45,45]) (r:op=57->Q [114,108,45,45]) (s:op=58->Q [99,114,45,45]) (t:op=59->Q [111,99,111,45]) (u:op=60->Q [99,45,45,45]) (v:op=61->Q [115,45,45,45]) (w:op=62->Q [111,102,112,45]) (x:op=63->Q [114,45,45,45]) (hn:¬ (1<=op/\op<=36)/\¬ (40<=op/\op<=45)/\¬ (50<=op/\op<=65)->Q []):Q (jT op):=by
 unfold jT;by_cases c0:1<=op/\op<=15
 ·rw [aaW c0];exact y c0
 rw [MC c0];by_cases c1:16<=op/\op<=36
 ·rw [aaW c1];exact z c1
 rw [MC c1];by_cases c2:op=40\/op=44\/op=65
 ·rw [aaW c2];exact h2 c2
 rw [MC c2];by_cases c3:op=41
 ·rw [aaW c3];exact h3 c3
 rw [MC c3];by_cases c4:op=42
 ·rw [aaW c4];exact h4 c4
 rw [MC c4];by_cases c5:op=43
 ·rw [aaW c5];exact h5 c5
 rw [MC c5];by_cases k:op=45\/op=64
 ·rw [aaW k];exact h6 k
 rw [MC k];by_cases l:op=50
 ·rw [aaW l];exact h7 l
 rw [MC l];by_cases m:op=51
 ·rw [aaW m];exact h8 m
 rw [MC m];by_cases n:op=52
 ·rw [aaW n];exact h9 n
 rw [MC n];by_cases a:op=53
 ·rw [aaW a];exact o a
 rw [MC a];by_cases b:op=54
 ·rw [aaW b];exact p b
 rw [MC b];by_cases c:op=55\/op=56
 ·rw [aaW c];exact q c
 rw [MC c];by_cases d:op=57
 ·rw [aaW d];exact r d
 rw [MC d];by_cases e:op=58
 ·rw [aaW e];exact s e
 rw [MC e];by_cases f:op=59
 ·rw [aaW f];exact t f
 rw [MC f];by_cases g:op=60
 ·rw [aaW g];exact u g
 rw [MC g];by_cases h:op=61
 ·rw [aaW h];exact v h
 rw [MC h];by_cases i:op=62
 ·rw [aaW i];exact w i
 rw [MC i];by_cases j:op=63
 ·rw [aaW j];exact x j
 rw [MC j];exact hn (by omega)
theorem Xw (x:iG):(AV.agg 54 4 λq=>bif Nat.beq q 3 then .int x.n else bif Nat.beq q 2 then .int x.c else bif Nat.beq q 1 then .int x.b else bif Nat.beq q 0 then .int x.a else .int 0)=Xx x:=bY (λq=>by match q with | 0 | 1 | 2 | 3 | q+4=>rfl)
theorem JG (op:Int):(jT op=[])↔nP op=false/\yF op=false:=by
 have hb:(nP op=false/\yF op=false)↔¬ (1<=op/\op<=36)/\¬ (40<=op/\op<=45)/\¬ (50<=op/\op<=65):=by unfold nP yF;simp only [adW,aeQ,acK];omega
 rw [hb];refine CX (Q:=λl=>l=[]↔_) op ?_ ?_ ?_ ?_ ?_ ?_ ?_ ?_ ?_ ?_ ?_ ?_ ?_ ?_ ?_ ?_ ?_ ?_ ?_ ?_ ?_;all_goals (intro h;constructor <;> intro k)
 all_goals (first | rfl | exact h | (exfalso;omega) | (exact absurd k (List.cons_ne_nil _ _)))
theorem Ym {op:Int} (h:jT op≠[]):(jT op).length=4:=by
 revert h;refine CX (Q:=λl=>l≠[]->l.length=4) op ?_ ?_ ?_ ?_ ?_ ?_ ?_ ?_ ?_ ?_ ?_ ?_ ?_ ?_ ?_ ?_ ?_ ?_ ?_ ?_ ?_;all_goals (intro _ h;first | rfl | exact absurd rfl h)
def su (op:Int) (k:Nat):Int:=byteAt (oG op) k
theorem XV (op:Int) (k:Nat):su op k=(((jT op)[k]?.getD 0).toNat:Nat):=by
 unfold su byteAt oG;congr 2;by_cases h:k<(jT op).length
 ·(have a:k<(⟨(jT op).toArray⟩:ByteArray).size:=by simpa [ByteArray.size]using h);rw [getElem?_pos (⟨(jT op).toArray⟩:ByteArray) k a,getElem?_pos (jT op) k h];rfl
 (have a:¬ k<(⟨(jT op).toArray⟩:ByteArray).size:=by simpa [ByteArray.size]using h);rw [getElem?_neg (⟨(jT op).toArray⟩:ByteArray) k a,getElem?_neg (jT op) k h]
theorem aac {op:Int} {k:Nat} (h:su op k=112):k=2/\su op 1=102:=by
 rw [XV]at h ⊢;revert h;refine CX (Q:=λl=>((l[k]?.getD 0).toNat:Int)=112->k=2/\((l[1]?.getD 0).toNat:Int)=102) op ?_ ?_ ?_ ?_ ?_ ?_ ?_ ?_ ?_ ?_ ?_ ?_ ?_ ?_ ?_ ?_ ?_ ?_ ?_ ?_ ?_;all_goals (intro _ h;match k,h with| 0,h | 1,h | 2,h | 3,h=>(first | exact ⟨rfl,rfl⟩ | (exact absurd h (by decide)))| k+4,h=>(exact absurd h (by simp)))
def ES (p:Nat->Bool):Nat->Bool
 | 0=>false
 | i+1=>ES p i||p i
theorem Ed {p:Nat->Bool} {i:Nat} (h:p i=true):∀ {n:Nat},i<n->ES p n=true
 | n+1,hn=>by rw [ES,adM];by_cases e:i=n;{subst e;exact .inr h};exact .inl (Ed h (by omega))
theorem TT (b:ByteArray):∀ (n i:Nat) (r:List UInt8),b.size - i=n->(ByteArray.toList.loop b i r).length=r.length+(b.size - i)
 | 0,i,r,h=>by unfold ByteArray.toList.loop;rw [MC (by omega),List.length_reverse];omega
 | n+1,i,r,h=>by unfold ByteArray.toList.loop;rw [aaW (by omega),TT b n (i+1) _ (by omega),adQ];omega
theorem YW (b:ByteArray):b.toList.length=b.size:=by
 unfold ByteArray.toList;have:=TT b _ 0 [] rfl;simpa using this
theorem Yn {op:Int} (h:((oG op).toList==(⟨#[]⟩:ByteArray).toList)=true):jT op=[]:=by
 have b:(oG op).toList=(⟨#[]⟩:ByteArray).toList:=by simpa using h
 have a:=acY List.length b;rw [YW,YW]at a;have c:(jT op).length=0:=by simpa [oG,ByteArray.size]using a
 exact aen c
theorem Yl {op:Int} (h:((oG op).toList==(⟨#[]⟩:ByteArray).toList)=false):jT op≠[]:=by
 intro e;have:oG op=⟨#[]⟩:=by rw [oG,e]
 rw [this]at h;simp at h
def unB (x:iG) (k:Nat):Bool:=su x.op k==45&&(EY x).getD k 0 != 0
def qG (p:aj) (f:fZ) (x:iG):Nat->Int
 | 0=>0
 | k+1=>if qG p f x k≠0 then qG p f x k else aS p f (su x.op k) ((EY x).getD k 0) x
def jo (p:aj) (f:fZ) (x:iG):Int :=
 if jT x.op=[]then 33 else if ES (unB x) 4 then 34 else qG p f x 4
theorem JF {op:Int} (h:jT op≠[]):(oG op).size=4:=by
 have:=Ym h;simpa [oG,ByteArray.size]using this
theorem Ea {p:aj} {f:fZ} {x:iG} {k:Nat} (h:qG p f x k=0) (hb:aS p f (su x.op k) ((EY x).getD k 0) x≠0):∀ {n:Nat},k<n->qG p f x n=aS p f (su x.op k) ((EY x).getD k 0) x
 | n+1,hn=>by by_cases e:k=n;{subst e;rw [qG,h,MC (by simp)]};have a:=Ea h hb (n:=n) (by omega);rw [qG,a,aaW hb]
theorem Xu {p:aj} {f:fZ} {x:iG} {k:Nat} (h:qG p f x k=0) (hc:su x.op k=112):0<=x.b/\x.b<p.funcs.length:=by
 obtain ⟨rfl,d⟩:=aac hc;have c:aS p f (su x.op 1) ((EY x).getD 1 0) x=0:=by(have e:qG p f x 2=if qG p f x 1≠0 then qG p f x 1 else aS p f (su x.op 1) ((EY x).getD 1 0) x:=rfl);rw [e]at h;split at h;{rename_i a;exact absurd h a};exact h
 rw [d]at c;exact rD c
theorem Om (x:iG):AC Tryz.prog T aI 216 [aU x] [] (Xx x) []:=by
 refine aX Tryz.func216 ?_;refine sg rfl (sg rfl ?_);refine rX ?_;refine Fin.ent (uM.mk (P:=Tryz.prog) hT [] (ts:=[(2,.ptr (.s 2 0) 1 0 [])]) (ms:=[(.s 2 0,.cells ⟨54,1,λ_=>Xx x,0⟩)]) trivial ⟨⟨rfl,_,rfl,ah rfl⟩,tt⟩ ⟨⟨λ_ _=>DW (λ_ _=>rfl),.inl ⟨_,rfl,_,_,rfl,aa4 _,abO _,abO _,λq a=>by (obtain rfl:q=0:=(by simp at a;exact a));exact ah (Xw x)⟩⟩,tt⟩ rfl) ?_;refine aG hT [(.s 2 0,1)] (ts:=[(2,.rp 54 (Xx x))]) (l:=[Xx x]) ⟨⟨_,rfl,aa4 _⟩,tt⟩ ⟨⟨rfl,_,rfl,bG rfl rfl (by simp [dO,aT]) rfl rfl He⟩,tt⟩ trivial rfl rfl rfl
theorem XZ (p:aj) (f:fZ) (x:iG):AC Tryz.prog T aI 157 [.rp 257 (zi p f),aU x] [] (.int (jo p f x)) []:=by
 refine aX Tryz.func157 ?_;refine sg rfl (sq (rgs [CG.pure (.v (.string (oG x.op)))] rfl ?_ ?_))
 ·have hf:=aap x.op;simp [ay,under,CG.pure];exact hf
 refine sq (sq (rg [] rfl ?_));refine cd rfl (λg=>?_) (λg=>?_)
 ·have j:jT x.op=[]:=Yn g;exact sg rfl (WP.ret (bn hT (by rfl) (by rw [jo,aaW j])))
 have b:jT x.op≠[]:=Yl g;have hsz:=JF b;refine sk (sq (rgs [CG.pure (Xx x)] rfl ?_ ?_));{have l:=Om x;simp [ay,under,CG.pure];exact l};refine sq (sq (rg [] rfl ?_));refine bk (WP.loop (α:=Nat) (λk=>aN [(0,.rp 257 (zi p f)),(3,.rp 120 (aU x)),(5,.v (.string (oG x.op))),(6,.rp 54 (Xx x)),(19,Xx x),(20,.int k)] []) (λk=>k<=4/\ES (unB x) k=false) (λk=>4 - k) ?_ ?_);{refine ⟨0,?_,?_⟩;{exact ⟨abO _,rfl⟩};refine em [(.s 3 0,1),(.s 6 0,1)] ⟨⟨_,rfl,aa4 _⟩,⟨_,rfl,aa4 _⟩,tt⟩ ⟨cq,⟨rfl,_,rfl,bG rfl rfl (by decide) rfl rfl rfl⟩,cq,⟨rfl,_,rfl,bG rfl rfl (by decide) rfl rfl rfl⟩,cq,cq,tt⟩ trivial};rintro k ⟨hk,hn⟩;refine sg rfl (sq ?_);refine cd rfl (λh=>?_) (λh=>?_);{(have a:k<4:=by simp at h;omega);refine sk (sq (bk (sq (rgs [] rfl ?_ ?_))));{simp [ay,under];omega};refine sq (rgs [] rfl ?_ ?_);{simp [ay,under,hsz];omega};refine cd rfl (λi=>?_) (λi=>?_);{(have hb:unB x k=true:=by have e:(bif su x.op k==45 then (EY x).getD k 0 != 0 else false)=true:=i;rwa [band]at e);exact sg rfl (WP.ret (bn hT (by rfl) (by rw [jo,MC b,Ed hb a,aaW rfl])))};(have hb:unB x k=false:=by have e:(bif su x.op k==45 then (EY x).getD k 0 != 0 else false)=false:=i;rwa [band]at e);refine sk (rg [] rfl ?_);refine ⟨k+1,?_,?_,?_⟩;{exact ⟨a,by rw [ES,hn,hb];rfl⟩};{refine eX cX trivial};(try simp only []);first | omega | grind};(have a:k=4:=by simp at h;omega);subst a;refine xt (sq (sq (rg [] rfl ?_)));refine bk (WP.loop (α:=Nat) (λk=>aN [(0,.rp 257 (zi p f)),(3,.rp 120 (aU x)),(5,.v (.string (oG x.op))),(33,Xx x),(34,.int k)] []) (λk=>k<=4/\qG p f x k=0) (λk=>4 - k) ?_ ?_);{refine ⟨0,?_,?_⟩;{exact ⟨abO _,rfl⟩};refine eX cX trivial};rintro k ⟨hk,he⟩;refine sg rfl (sq ?_);refine cd rfl (λc=>?_) (λc=>?_);{(have a:k<4:=by simp at c;omega);refine sk (sq (bk (sq (rgs [] rfl ?_ ?_))));{simp [ay,under];omega};refine sq (drs [CG.pure (.int (aS p f (su x.op k) ((EY x).getD k 0) x))] rfl ?_ ?_);{have l:=QC p f (su x.op k) ((EY x).getD k 0) x (λhc=>Xu he hc);(have m:k<(oG x.op).size:=by omega);refine ⟨⟨by omega,by omega⟩,?_⟩;exact l};refine sg rfl (cd rfl (λd=>?_) (λd=>?_));{(have hb:aS p f (su x.op k) ((EY x).getD k 0) x≠0:=by simpa using d);refine sg rfl (rX ?_);refine bn hT (by rfl) ?_;rw [jo,MC b,hn,MC (by simp),Ea he hb a]};(have hb:aS p f (su x.op k) ((EY x).getD k 0) x=0:=by simpa using d);refine sk (rg [] rfl ?_);refine ⟨k+1,?_,?_,?_⟩;{exact ⟨a,by rw [qG,he,MC (by simp)];exact hb⟩};{refine eX cX trivial};(try simp only []);first | omega | grind};(have a:k=4:=by simp at c;omega);subst a;refine xt (sq (rg [] rfl ?_));refine rX ?_;exact bn hT (by rfl) (by rw [jo,MC b,hn];simp [he])
theorem UE (p:aj) (f:fZ) (x:iG):AC Tryz.prog T aI 109 [ak p,jA f,aU x] [] (.int (jo p f x)) []:=by
 refine aX Tryz.func109 ?_;refine sg rfl (sq (sq (rgs [CG.pure (.bool (nP x.op)),CG.pure (.bool (yF x.op))] rfl ?_ ?_)))
 ·have g:=DI x.op;have l:=ND x.op;simp [ay,under,CG.pure];exact ⟨g,λ_=>l⟩
 refine cd rfl (λg=>?_) (λg=>?_)
 ·(have j:jT x.op=[]:=by have e:(bif !nP x.op then !yF x.op else false)=true:=g;rw [band,abh,aeH,aeH]at e;exact (JG x.op).2 e);exact sg rfl (WP.ret (bn hT (by rfl) (by rw [jo,aaW j])))
 (have b:jT x.op≠[]:=by have e:(bif !nP x.op then !yF x.op else false)=false:=g;rw [band]at e;intro o;have:=(JG x.op).1 o;rw [this.1,this.2]at e;cases e);have hsz:=JF b;refine sk (sq (rgs [CG.pure (.v (.string (oG x.op)))] rfl ?_ ?_));{have hf:=Xi x.op;simp [ay,under,CG.pure];exact hf};refine sg rfl (sq (sq (rg [] rfl ?_)));refine bk (WP.loop (α:=Nat) (λk=>aN [(3,.rp 26 (ak p)),(4,.rp 100 (jA f)),(5,.rp 120 (aU x)),(7,.v (.string (oG x.op))),(8,.rp 54 (Xx x)),(9,.int k)] []) (λk=>k<=4/\ES (unB x) k=false) (λk=>4 - k) ?_ ?_);{refine ⟨0,?_,?_⟩;{exact ⟨abO _,rfl⟩};refine em [(.s 3 0,1),(.s 4 0,1),(.s 5 0,1),(.s 8 0,1)] ⟨⟨_,rfl,aa4 _⟩,⟨_,rfl,aa4 _⟩,⟨_,rfl,aa4 _⟩,⟨_,rfl,aa4 _⟩,tt⟩ ⟨⟨rfl,_,rfl,bG rfl rfl (by decide) rfl rfl rfl⟩,⟨rfl,_,rfl,bG rfl rfl (by decide) rfl rfl rfl⟩,⟨rfl,_,rfl,bG rfl rfl (by decide) rfl rfl rfl⟩,cq,⟨rfl,_,rfl,bG rfl rfl (by decide) rfl (Xw x) He⟩,cq,tt⟩ trivial};rintro k ⟨hk,hn⟩;refine sq (sq (rg [] rfl ?_));refine cd rfl (λh=>?_) (λh=>?_);{(have a:k<4:=by simp at h;omega);refine sk (sq (bk (sq (rgs [] rfl ?_ ?_))));{simp [ay,under,hsz];omega};refine cd rfl (λi=>?_) (λi=>?_);{(have hb:unB x k=true:=by have e:(bif su x.op k==45 then (EY x).getD k 0 != 0 else false)=true:=i;rwa [band]at e);exact sg rfl (WP.ret (bn hT (by rfl) (by rw [jo,MC b,Ed hb a,aaW rfl])))};(have hb:unB x k=false:=by have e:(bif su x.op k==45 then (EY x).getD k 0 != 0 else false)=false:=i;rwa [band]at e);refine sk (rg [] rfl ?_);refine ⟨k+1,?_,?_,?_⟩;{exact ⟨a,by rw [ES,hn,hb];rfl⟩};{refine eX cX trivial};(try simp only []);first | omega | grind};(have a:k=4:=by simp at h;omega);subst a;refine xt (sq (sq (rg [] rfl ?_)));refine bk (WP.loop (α:=Nat) (λk=>aN [(3,.rp 26 (ak p)),(4,.rp 100 (jA f)),(5,.rp 120 (aU x)),(7,.v (.string (oG x.op))),(8,.rp 54 (Xx x)),(10,.int k)] []) (λk=>k<=4/\qG p f x k=0) (λk=>4 - k) ?_ ?_);{refine ⟨0,?_,?_⟩;{exact ⟨abO _,rfl⟩};refine eX cX trivial};rintro k ⟨hk,he⟩;refine sq (sq (rg [] rfl ?_));refine cd rfl (λc=>?_) (λc=>?_);{(have a:k<4:=by simp at c;omega);refine sk (sq (bk (sq (drs [CG.pure (.int (aS p f (su x.op k) ((EY x).getD k 0) x))] rfl ?_ ?_))));{have n:=NK p f (su x.op k) ((EY x).getD k 0) x (λhc=>Xu he hc);(have m:k<(oG x.op).size:=by omega);refine ⟨⟨⟨by omega,by omega⟩,⟨by omega,by omega⟩⟩,?_⟩;exact n};refine sg rfl (cd rfl (λd=>?_) (λd=>?_));{(have hb:aS p f (su x.op k) ((EY x).getD k 0) x≠0:=by simpa using d);refine sg rfl (rX ?_);refine bn hT (by rfl) ?_;rw [jo,MC b,hn,MC (by simp),Ea he hb a]};(have hb:aS p f (su x.op k) ((EY x).getD k 0) x=0:=by simpa using d);refine sk (rg [] rfl ?_);refine ⟨k+1,?_,?_,?_⟩;{exact ⟨a,by rw [qG,he,MC (by simp)];exact hb⟩};{refine eX cX trivial};(try simp only []);first | omega | grind};(have a:k=4:=by simp at c;omega);subst a;refine xt (sq (rg [] rfl ?_));refine rX ?_;exact bn hT (by rfl) (by rw [jo,MC b,hn];simp [he])
def AU {α:Type} (g:α->Int):List α->Int
 | []=>0
 | x::r=>if g x≠0 then g x else AU g r
theorem xU {α:Type} {g:α->Int} {d:α}:∀ {l:List α} {i:Nat},i<l.length->(∀ j,j<i->g (l.getD j d)=0)->g (l.getD i d)≠0->AU g l=g (l.getD i d)
 | x::r,0,_,_,hb=>by have a:g x≠0:=hb;rw [AU,aaW a];rfl
 | x::r,i+1,hi,hn,hb=>by have b:=hn 0 (by omega);rw [AU,MC (by simpa using b)];exact xU (l:=r) (i:=i) (by simpa using hi) (λj c=>hn (j+1) (by omega)) hb
theorem lJ {α:Type} {g:α->Int} {d:α}:∀ {l:List α},(∀ j,j<l.length->g (l.getD j d)=0)->AU g l=0
 | [],_=>rfl
 | x::r,hn=>by have a:=hn 0 (by simp);rw [AU,MC (by simpa using a)];exact lJ (l:=r) (λj b=>hn (j+1) (by simpa using b))
def szB (p:aj):Bool:=decide ((p.vars.length:Int)>8)||decide (p.locks<0)||decide (p.locks>4)||decide ((p.chans.length:Int)>4)||decide ((p.funcs.length:Int)<1)||decide ((p.funcs.length:Int)>8)
def EM (n:Int):Int:=if decide (n<0)||decide (n>4)then 31 else 0
def kT (p:aj):Int:=if szB p then 30 else AU EM p.chans
theorem iV {P:Nat->Prop} {i:Nat} (h:∀ j,j<i->P j) (hi:P i):∀ j,j<i+1->P j:=λj b=>by
 rcases adf j i with a | a
 ·exact h j a
 ·obtain rfl:j=i:=by omega
  exact hi
theorem V8 (p:aj):AC Tryz.prog T aI 154 [ak p] [] (.int (kT p)) []:=by
 refine aX Tryz.func154 ?_;refine sg rfl (sq (sq (rg [] rfl ?_)));refine cd rfl (λb=>?_) (λb=>?_)
 ·(have hb:szB p=true:=by simp only [fE]at b;exact b);exact sg rfl (WP.ret (bn hT (by rfl) (by rw [kT,aaW hb])))
 (have hb:szB p=false:=by simp only [fE]at b;exact b);(have e:p.chans.length<=4:=by simp [szB]at hb;omega);refine sk (sq (sq (rg [] rfl ?_)));refine bk (WP.loop (α:=Nat) (λi=>aN [(38,ints false p.chans),(39,.int p.chans.length),(40,.int i)] []) (λi=>i<=p.chans.length /\ ∀ j,j<i->EM (p.chans.getD j 0)=0) (λi=>p.chans.length - i) ?_ ?_);{refine ⟨0,?_,?_⟩;{exact ⟨abO _,λj f=>by omega⟩};refine eX cX trivial};rintro i ⟨hi,hn⟩;refine sg rfl (sq ?_);refine cd rfl (λd=>?_) (λd=>?_);{(have a:i<p.chans.length:=by simpa using d);refine sk (sq (bk (sq (rgs [] rfl ?_ ?_))));{simp [ay,under];omega};refine sg rfl (cd rfl (λc=>?_) (λc=>?_));{(have hx:EM (p.chans.getD i 0)=31:=by simp only [fE]at c;exact aaW c);refine sg rfl (rX ?_);exact bn hT (by rfl) (by rw [kT,hb,MC (by simp),xU a hn (by rw [hx];decide),hx])};(have hx:EM (p.chans.getD i 0)=0:=by simp only [fE]at c;exact MC (by rw [show (decide (p.chans.getD i 0<0)||decide (p.chans.getD i 0>4))=false from c];decide));refine sk (rg [] rfl ?_);refine ⟨i+1,?_,?_,?_⟩;{exact ⟨a,iV hn hx⟩};{refine eX cX trivial};(try simp only []);first | omega | grind};(have a:i=p.chans.length:=by simp at d;omega);subst a;refine xt (sq (rg [] rfl ?_));exact WP.ret (bn hT (by rfl) (by rw [kT,hb,MC (by simp),lJ hn]))
def Qd (f:fZ) (main:Bool):Bool:=(decide (f.regs>=0)&&decide (f.regs<=8)&&decide (f.params>=0)&&decide (f.params<=f.regs) && !(main&&decide (f.params>0)))&&decide ((f.code.length:Int)>=1)&&decide ((f.code.length:Int)<=64)&&decide ((f.sels.length:Int)<=4)
theorem qZ {f:fZ} {main:Bool}:Qd f main=true↔0<=f.regs/\f.regs<=8/\0<=f.params/\f.params<=f.regs/\¬ (main=true/\f.params>0)/\(f.code.length:Int)>=1/\(f.code.length:Int)<=64/\(f.sels.length:Int)<=4:=by
 simp only [Qd,abh,ab8,aeH,aeQ,acK];cases main <;> simp <;> omega
theorem not_true {b:Bool} (h:¬ b=true):b=false:=by simpa using h
def EX (s:uF):Bool:=decide ((s.cases.length:Int)>=1)&&decide ((s.cases.length:Int)<=4)
def tV (f:fZ):Nat->Bool
 | 0=>true
 | i+1=>tV f i&&EX (f.sels.getD i xw)
theorem Us {f:fZ} {i:Nat} {n:Nat} (h:i<n) (hx:EX (f.sels.getD i xw)=false):tV f n=false:=by
 induction n with| zero=>omega| succ n a=>rw [tV];by_cases e:i=n;{subst e;rw [hx,Bool.and_false]};rw [a (by omega),ad5]
def fV (f:fZ) (main:Bool):Bool:=Qd f main&&tV f f.sels.length
theorem WL (f:fZ) (main:Bool):AC Tryz.prog T aI 155 [jA f,.bool main] [] (.int (if fV f main then 0 else 32)) []:=by
 refine aX Tryz.func155 ?_;refine sg rfl (sg rfl ?_);refine sg rfl (sq (sq (rg [] rfl ?_)));refine WP.rowlen 57 rfl (λg=>?_);refine bk (WP.loop (α:=Nat×Bool) (λ(⟨i,ok⟩:Nat×Bool)=>aN [(5,.bool ok),(57,rowP 103 jK xw f.sels),(58,.int f.sels.length),(59,.int i)] []) (λ(⟨i,ok⟩:Nat×Bool)=>i<=f.sels.length/\ok=(Qd f main&&tV f i)) (λ(⟨i,ok⟩:Nat×Bool)=>f.sels.length - i) ?_ ?_)
 ·refine ⟨(0,Qd f main),?_,?_⟩;{exact ⟨abO _,by simp [tV]⟩};refine eX ⟨⟨rfl,_,rfl,ah (by simp only [band];rfl)⟩,cq,cq,cq,tt⟩ trivial
 rintro ⟨i,ok⟩ ⟨hi,b⟩;refine sg rfl (sq ?_);refine cd rfl (λc=>?_) (λc=>?_);{(have a:i<f.sels.length:=by simpa using c);refine sk (sq (bk (sq (rgs [] rfl ?_ ?_))));{simp [ay,under];omega};refine rg [] rfl (rg [] rfl ?_);refine ⟨(i+1,Qd f main&&tV f (i+1)),?_,?_,?_⟩;{exact ⟨a,rfl⟩};{refine eX ⟨⟨rfl,_,rfl,ah (by simp only [band];rw [b,tV,EX];simp only [Bool.and_assoc];rfl)⟩,cq,cq,cq,tt⟩ trivial};(try simp only []);first | omega | grind};(have a:i=f.sels.length:=by simp at c;omega);subst a;refine xt (sq (sq (rg [] rfl ?_)));refine cd rfl (λd=>?_) (λd=>?_);{(have e:fV f main=false:=by rw [fV,<- b];simpa using d);refine sg rfl (rX ?_);exact bn hT (by rfl) (by rw [e];rfl)};(have e:fV f main=true:=by rw [fV,<- b];simpa using d);refine sk (sq (rg [] rfl ?_));refine rX ?_;exact bn hT (by rfl) (by rw [e];rfl)
theorem Vo (n:Nat) (f:fZ):AC Tryz.prog T aI 107 [.int n,jA f] [] (.bool (fV f (n==0))) []:=by
 refine aX Tryz.func107 ?_;refine sg rfl (sq (sq (rg [] rfl ?_)));refine cd rfl (λd=>?_) (λd=>?_)
 ·(have hb:Qd f (n==0)=false:=by refine not_true λc=>?_;rw [qZ]at c;simp only [fE,band,adM,abh,ab8,ade,bne_iff_ne]at d c;omega);refine sg rfl (rX ?_);exact fin1 hT (by rfl) (by rw [fV,hb];rfl)
 refine sk (sq (sq (rg [] rfl ?_)));refine cd rfl (λe=>?_) (λe=>?_);{(have hb:Qd f (n==0)=false:=by refine not_true λc=>?_;rw [qZ]at c;simp only [fE,band,adM,abh,ab8,ade,bne_iff_ne]at e c;omega);refine sg rfl (rX ?_);exact fin1 hT (by rfl) (by rw [fV,hb];rfl)};(have hb:Qd f (n==0)=true:=by rw [qZ];simp only [fE,band,adW,aeQ,acK,ade,aci,bne_eq_false_iff_eq]at d e ⊢;omega);(have j:f.sels.length<=4:=by simp [Qd]at hb;omega);refine sk (sq (sq (rg [] rfl ?_)));refine bk (WP.loop (α:=Nat) (λi=>aN [(53,rowP 103 jK xw f.sels),(54,.int f.sels.length),(55,.int i)] []) (λi=>i<=f.sels.length/\tV f i=true) (λi=>f.sels.length - i) ?_ ?_);{refine ⟨0,?_,?_⟩;{exact ⟨abO _,rfl⟩};refine eX cX trivial};rintro i ⟨hi,b⟩;refine sg rfl (sq ?_);refine cd rfl (λg=>?_) (λg=>?_);{(have a:i<f.sels.length:=by simpa using g);refine sk (sq (bk (sq (rgs [] rfl ?_ ?_))));{simp [ay,under];omega};refine sg rfl (cd rfl (λh=>?_) (λh=>?_));{(have hx:EX (f.sels.getD i xw)=false:=by simp only [fE,adM,ab8,ac9]at h;simp only [EX,aeQ,acK];omega);exact sg rfl (WP.ret (fin1 hT (by rfl) (by rw [fV,Us a hx,Bool.and_false])))};(have hx:EX (f.sels.getD i xw)=true:=by simp only [fE,adW,acK,ac9]at h;simp only [EX,abh,ab8];omega);refine sk (rg [] rfl ?_);refine ⟨i+1,?_,?_,?_⟩;{exact ⟨a,by rw [tV,b,hx];rfl⟩};{refine eX cX trivial};(try simp only []);first | omega | grind};(have a:i=f.sels.length:=by simp at g;omega);subst a;refine xt (sq (rg [] rfl ?_));refine rX ?_;exact fin1 hT (by rfl) (by rw [fV,hb,b];rfl)
theorem BF {f:fZ}:∀ {n:Nat},tV f n=true -> ∀ i,i<n->EX (f.sels.getD i xw)=true
 | n+1,h,i,hi=>by rw [tV,abh]at h;by_cases e:i=n;{subst e;exact h.2};exact BF h.1 i (by omega)
def oW (p:aj) (f:fZ) (c:zu):Int :=
 if dL c.chan p.chans.length≠0 then 36 else if (c.send||c.reg != -1)=true/\eH f c.reg≠0 then 35 else
 if (c.send&&p.chans.getD c.chan.toNat 0==0)=true then 37 else dZ f c.to
def zk (f:fZ) (s:uF):Int:=if s.els ≠ -1 then dZ f s.els else 0
def DC (p:aj) (f:fZ) (s:uF):Int:=if AU (oW p f) s.cases≠0 then AU (oW p f) s.cases else zk f s
def rH (p:aj) (f:fZ):Int:=AU (DC p f) f.sels
abbrev aP (f:fZ) (i:Nat):uF:=f.sels.getD i xw
abbrev aA (s:uF) (k:Nat):zu:=s.cases.getD k EP
theorem mP {p:aj} {f:fZ} {s:uF} {k:Nat} {e:Int} (hk:k<s.cases.length) (hn:∀ j,j<k->oW p f (aA s j)=0) (he:oW p f (aA s k)=e) (a:e≠0):DC p f s=e:=by
 subst he;have:=xU hk hn a;rw [DC,this,aaW a]
theorem kL {p:aj} {f:fZ} {i:Nat} {e:Int} (hi:i<f.sels.length) (hn:∀ j,j<i->DC p f (aP f j)=0) (he:DC p f (aP f i)=e) (a:e≠0):rH p f=e:=by
 subst he;rw [rH,xU hi hn a]
theorem XH {n m:Int} (h:dL n m≠0):dL n m=36:=by
 unfold dL at h ⊢;split
 ·rename_i hw;rw [aaW hw]at h;exact absurd rfl h
 rfl
theorem Xn {f:fZ} {n:Int} (h:eH f n≠0):eH f n=35:=by
 unfold eH at h ⊢;split
 ·rename_i hw;rw [aaW hw]at h;exact absurd rfl h
 rfl
theorem Ql (p:aj) (f:fZ) (m:Bool) (hf:fV f m=true):AC Tryz.prog T aI 156 [.rp 257 (zi p f)] [] (.int (rH p f)) []:=by
 refine aX Tryz.func156 ?_;have hsz:Qd f m=true:=by rw [fV,abh]at hf;exact hf.1
 have a2:tV f f.sels.length=true:=by rw [fV,abh]at hf;exact hf.2
 rw [qZ]at hsz;refine sg rfl (sq (sq (rg [] rfl ?_)));refine bk (WP.loop (α:=Nat) (λi=>aN [(0,.rp 257 (zi p f)),(15,rowP 103 jK xw f.sels),(16,.int f.sels.length),(17,.int i)] []) (λi=>i<=f.sels.length /\ ∀ j,j<i->DC p f (aP f j)=0) (λi=>f.sels.length - i) ?_ ?_)
 ·refine ⟨0,?_,?_⟩;{exact ⟨abO _,λj hj=>by omega⟩};refine eX cX trivial
 rintro i ⟨hi,hn⟩;refine sg rfl (sq ?_);refine cd rfl (λx=>?_) (λx=>?_);{(have a:i<f.sels.length:=by simpa using x);have a0:=BF a2 i a;(have a4:(aP f i).cases.length<=4:=by simp only [EX,abh,ab8]at a0;simp only [aP];omega);refine sk (sq (bk (sq (rgs [] rfl ?_ ?_))));{simp [ay,under];omega};refine sq (sq (rg [] rfl ?_));refine bk (WP.loop (α:=Nat) (λk=>aN [(0,.rp 257 (zi p f)),(4,.rp 103 (jK (aP f i))),(15,rowP 103 jK xw f.sels),(16,.int f.sels.length),(17,.int i),(22,rowP 215 qo EP (aP f i).cases),(23,.int (aP f i).cases.length),(24,.int k)] []) (λk=>k<=(aP f i).cases.length /\ ∀ j,j<k->oW p f (aA (aP f i) j)=0) (λk=>(aP f i).cases.length - k) ?_ ?_);{refine ⟨0,?_,?_⟩;{exact ⟨abO _,λj hj=>by omega⟩};refine em [(.s 4 0,1)] ⟨⟨_,rfl,aa4 _⟩,tt⟩ ⟨cq,⟨rfl,_,rfl,bG rfl rfl (by decide) rfl rfl rfl⟩,cq,cq,cq,cq,cq,cq,tt⟩ trivial};rintro k ⟨hk,hc⟩;refine sg rfl (sq ?_);refine cd rfl (λy=>?_) (λy=>?_);{(have b:k<(aP f i).cases.length:=by simpa using y);refine sk (sq (bk (sq (rgs [] rfl ?_ ?_))));{have a3:k<(f.sels[i]?.getD xw).cases.length:=b;simp [ay,under];omega};refine sq (sq (drs [CG.pure (.int (dL (aA (aP f i) k).chan p.chans.length))] rfl ?_ ?_));{have n:=qP (aA (aP f i) k).chan p.chans.length;refine ⟨⟨rfl,rfl⟩,?_⟩;exact n};refine sg rfl (cd rfl (λz=>?_) (λz=>?_));{(have hb:dL (aA (aP f i) k).chan p.chans.length≠0:=by simpa using z);refine sg rfl (rX ?_);refine bn hT (by rfl) ?_;rw [XH hb,kL a hn (mP b hc (by rw [oW,aaW hb]) (by decide)) (by decide)]};(have hb:dL (aA (aP f i) k).chan p.chans.length=0:=by simpa using z);have l:=rD hb;refine sk (sq (sq (rg [] rfl ?_)));refine cd rfl (λq=>?_) (λq=>?_);{(have a1:((aA (aP f i) k).send||(aA (aP f i) k).reg != -1)=true:=by have e:(bif (aA (aP f i) k).send then true else (aA (aP f i) k).reg != -1)=true:=q;rwa [fE]at e);refine sq (rgs [CG.pure (.int (eH f (aA (aP f i) k).reg))] rfl ?_ ?_);{have n:=uT p f (aA (aP f i) k).reg;refine ⟨⟨rfl,rfl⟩,?_⟩;exact n};refine sg rfl (cd rfl (λr=>?_) (λr=>?_));{(have o:eH f (aA (aP f i) k).reg≠0:=by simpa using r);refine sg rfl (rX ?_);refine bn hT (by rfl) ?_;rw [Xn o,kL a hn (mP b hc (by rw [oW,MC (λh=>h hb),aaW ⟨a1,o⟩]) (by decide)) (by decide)]};have o:¬ (((aA (aP f i) k).send||(aA (aP f i) k).reg != -1)=true/\eH f (aA (aP f i) k).reg≠0):=λh=>h.2 (by simpa using r);refine sk (sq (sq (drs [] rfl ?_ ?_)));{simp only [aP,aA,aaV]at l;simp [ay,under];exact λ_=>l};refine cd rfl (λc=>?_) (λc=>?_);{(have w:((aA (aP f i) k).send&&p.chans.getD (aA (aP f i) k).chan.toNat 0==0)=true:=by have e:(bif (aA (aP f i) k).send then p.chans.getD (aA (aP f i) k).chan.toNat 0==0 else false)=true:=c;rwa [band]at e);refine sg rfl (rX ?_);refine bn hT (by rfl) ?_;rw [kL a hn (mP b hc (by rw [oW,MC (λh=>h hb),MC o,aaW w]) (by decide)) (by decide)]};(have w:¬ ((aA (aP f i) k).send&&p.chans.getD (aA (aP f i) k).chan.toNat 0==0)=true:=by have e:(bif (aA (aP f i) k).send then p.chans.getD (aA (aP f i) k).chan.toNat 0==0 else false)=false:=c;rw [band]at e;rw [e];decide);(have g:oW p f (aA (aP f i) k)=dZ f (aA (aP f i) k).to:=by rw [oW,MC (λh=>h hb),MC o,MC w]);refine sk (sq (rgs [CG.pure (.int (dZ f (aA (aP f i) k).to))] rfl ?_ ?_));{have n:=zy p f (aA (aP f i) k).to;refine ⟨⟨rfl,rfl⟩,?_⟩;exact n};refine sg rfl (cd rfl (λd=>?_) (λd=>?_));{(have ht:dZ f (aA (aP f i) k).to≠0:=by simpa using d);refine sg rfl (rX ?_);refine bn hT (by rfl) ?_;rw [kL a hn (mP b hc g ht) ht]};(have ht:dZ f (aA (aP f i) k).to=0:=by simpa using d);refine sk (rg [] rfl ?_);refine ⟨k+1,?_,?_,?_⟩;{exact ⟨b,iV hc (by rw [g,ht])⟩};{refine eX cX trivial};(try simp only []);first | omega | grind};(have o:¬ (((aA (aP f i) k).send||(aA (aP f i) k).reg != -1)=true/\eH f (aA (aP f i) k).reg≠0):=by have e:(bif (aA (aP f i) k).send then true else (aA (aP f i) k).reg != -1)=false:=q;rw [fE]at e;rw [e];simp);refine sk (sq (sq (drs [] rfl ?_ ?_)));{simp only [aP,aA,aaV]at l;simp [ay,under];exact λ_=>l};refine cd rfl (λc=>?_) (λc=>?_);{(have w:((aA (aP f i) k).send&&p.chans.getD (aA (aP f i) k).chan.toNat 0==0)=true:=by have e:(bif (aA (aP f i) k).send then p.chans.getD (aA (aP f i) k).chan.toNat 0==0 else false)=true:=c;rwa [band]at e);refine sg rfl (rX ?_);refine bn hT (by rfl) ?_;rw [kL a hn (mP b hc (by rw [oW,MC (λh=>h hb),MC o,aaW w]) (by decide)) (by decide)]};(have w:¬ ((aA (aP f i) k).send&&p.chans.getD (aA (aP f i) k).chan.toNat 0==0)=true:=by have e:(bif (aA (aP f i) k).send then p.chans.getD (aA (aP f i) k).chan.toNat 0==0 else false)=false:=c;rw [band]at e;rw [e];decide);(have g:oW p f (aA (aP f i) k)=dZ f (aA (aP f i) k).to:=by rw [oW,MC (λh=>h hb),MC o,MC w]);refine sk (sq (rgs [CG.pure (.int (dZ f (aA (aP f i) k).to))] rfl ?_ ?_));{have n:=zy p f (aA (aP f i) k).to;refine ⟨⟨rfl,rfl⟩,?_⟩;exact n};refine sg rfl (cd rfl (λd=>?_) (λd=>?_));{(have ht:dZ f (aA (aP f i) k).to≠0:=by simpa using d);refine sg rfl (rX ?_);refine bn hT (by rfl) ?_;rw [kL a hn (mP b hc g ht) ht]};(have ht:dZ f (aA (aP f i) k).to=0:=by simpa using d);refine sk (rg [] rfl ?_);refine ⟨k+1,?_,?_,?_⟩;{exact ⟨b,iV hc (by rw [g,ht])⟩};{refine eX cX trivial};(try simp only []);first | omega | grind};(have b:k=(aP f i).cases.length:=by simp only [acK]at y;omega);subst b;(have v:DC p f (aP f i)=zk f (aP f i):=by rw [DC,lJ hc];simp);refine xt (sq (rg [] rfl ?_));refine cd rfl (λt=>?_) (λt=>?_);{(have he:(aP f i).els ≠ -1:=by simpa using t);refine sq (rgs [CG.pure (.int (dZ f (aP f i).els))] rfl ?_ ?_);{have n:=zy p f (aP f i).els;exact n};refine sg rfl (cd rfl (λu=>?_) (λu=>?_));{(have ht:dZ f (aP f i).els≠0:=by simpa using u);refine sg rfl (rX ?_);refine bn hT (by rfl) ?_;rw [kL a hn (by rw [v,zk,aaW he]) ht]};(have ht:dZ f (aP f i).els=0:=by simpa using u);refine sk (rg [] rfl ?_);refine ⟨i+1,?_,?_,?_⟩;{exact ⟨a,iV hn (by rw [v,zk,aaW he,ht])⟩};{refine eX cX trivial};(try simp only []);first | omega | grind};(have he:(aP f i).els = -1:=by simpa using t);refine sk (rg [] rfl ?_);refine ⟨i+1,?_,?_,?_⟩;{exact ⟨a,iV hn (by rw [v,zk,MC (λh=>h he)])⟩};{refine eX cX trivial};(try simp only []);first | omega | grind};(have a:i=f.sels.length:=by simp at x;omega);subst a;refine xt (sq (rg [] rfl ?_));exact WP.ret (bn hT (by rfl) (by rw [rH,lJ hn]))
theorem abC (n m:Int):dL n m≠0↔dI n m=false:=by
 unfold dL;cases dI n m <;> simp
theorem Xm (f:fZ) (n:Int):eH f n≠0↔dI n f.regs=false:=by
 unfold eH;cases dI n f.regs <;> simp
theorem NI (p:aj) (f:fZ) (m:Bool) (hf:fV f m=true):AC Tryz.prog T aI 108 [ak p,jA f] [] (.int (rH p f)) []:=by
 refine aX Tryz.func108 ?_;have hsz:Qd f m=true:=by rw [fV,abh]at hf;exact hf.1
 have a0:tV f f.sels.length=true:=by rw [fV,abh]at hf;exact hf.2
 rw [qZ]at hsz;refine sg rfl (sq (sq (rg [] rfl ?_)));refine bk (WP.loop (α:=Nat) (λi=>aN [(2,.rp 26 (ak p)),(3,.rp 100 (jA f)),(10,rowP 103 jK xw f.sels),(11,.int f.sels.length),(12,.int i)] []) (λi=>i<=f.sels.length /\ ∀ j,j<i->DC p f (aP f j)=0) (λi=>f.sels.length - i) ?_ ?_)
 ·refine ⟨0,?_,?_⟩;{exact ⟨abO _,λj hj=>by omega⟩};refine em [(.s 2 0,1),(.s 3 0,1)] ⟨⟨_,rfl,aa4 _⟩,⟨_,rfl,aa4 _⟩,tt⟩ ⟨⟨rfl,_,rfl,bG rfl rfl (by decide) rfl rfl rfl⟩,⟨rfl,_,rfl,bG rfl rfl (by decide) rfl rfl rfl⟩,cq,cq,cq,tt⟩ trivial
 rintro i ⟨hi,hn⟩;refine sg rfl (sq ?_);refine cd rfl (λu=>?_) (λu=>?_);{(have c:i<f.sels.length:=by simpa using u);have z:=BF a0 i c;(have a4:(aP f i).cases.length<=4:=by simp only [EX,abh,ab8]at z;simp only [aP];omega);refine sk (sq (bk (sq (rgs [] rfl ?_ ?_))));{simp [ay,under];omega};refine sq (sq (rg [] rfl ?_));refine bk (WP.loop (α:=Nat) (λk=>aN [(2,.rp 26 (ak p)),(3,.rp 100 (jA f)),(6,.rp 103 (jK (aP f i))),(10,rowP 103 jK xw f.sels),(11,.int f.sels.length),(12,.int i),(17,rowP 215 qo EP (aP f i).cases),(18,.int (aP f i).cases.length),(19,.int k)] []) (λk=>k<=(aP f i).cases.length /\ ∀ j,j<k->oW p f (aA (aP f i) j)=0) (λk=>(aP f i).cases.length - k) ?_ ?_);{refine ⟨0,?_,?_⟩;{exact ⟨abO _,λj hj=>by omega⟩};refine em [(.s 6 0,1)] ⟨⟨_,rfl,aa4 _⟩,tt⟩ ⟨cq,cq,⟨rfl,_,rfl,bG rfl rfl (by decide) rfl rfl rfl⟩,cq,cq,cq,cq,cq,cq,tt⟩ trivial};rintro k ⟨hk,hc⟩;refine sg rfl (sq ?_);refine cd rfl (λv=>?_) (λv=>?_);{(have d:k<(aP f i).cases.length:=by simpa using v);refine sk (sq (bk (sq (rgs [] rfl ?_ ?_))));{have a2:k<(f.sels[i]?.getD xw).cases.length:=d;simp [ay,under];omega};refine sq (sq (rgs [CG.pure (.bool (dI (aA (aP f i) k).chan p.chans.length))] rfl ?_ ?_));{have o:=iR (aA (aP f i) k).chan p.chans.length;refine ⟨⟨rfl,rfl⟩,?_⟩;exact o};refine cd rfl (λw=>?_) (λw=>?_);{have hb:dL (aA (aP f i) k).chan p.chans.length≠0:=(abC _ _).2 (by simpa using w);refine sg rfl (rX ?_);refine bn hT (by rfl) ?_;rw [kL c hn (mP d hc (by rw [oW,aaW hb]) (by decide)) (by decide)]};(have hb:dL (aA (aP f i) k).chan p.chans.length=0:=by(have e:dI (aA (aP f i) k).chan p.chans.length=true:=by simpa using w);rw [dL,aaW e]);have y:=rD hb;refine sk (sq (sq (rgs [CG.pure (.bool (dI (aA (aP f i) k).reg f.regs))] rfl ?_ ?_)));{have o:=iR (aA (aP f i) k).reg f.regs;simp [ay,under,CG.pure];refine ⟨o,?_⟩;intro a b;simp [a,b]};refine cd rfl (λx=>?_) (λx=>?_);{(have t:((aA (aP f i) k).send||(aA (aP f i) k).reg != -1)=true/\eH f (aA (aP f i) k).reg≠0:=by have e:(bif !dI (aA (aP f i) k).reg f.regs then (bif (aA (aP f i) k).send then true else (aA (aP f i) k).reg != -1)else false)=true:=x;rw [band,fE,abh]at e;exact ⟨e.2,(Xm _ _).2 (by simpa using e.1)⟩);refine sg rfl (rX ?_);refine bn hT (by rfl) ?_;rw [kL c hn (mP d hc (by rw [oW,MC (λh=>h hb),aaW t]) (by decide)) (by decide)]};(have t:¬ (((aA (aP f i) k).send||(aA (aP f i) k).reg != -1)=true/\eH f (aA (aP f i) k).reg≠0):=by have e:(bif !dI (aA (aP f i) k).reg f.regs then (bif (aA (aP f i) k).send then true else (aA (aP f i) k).reg != -1)else false)=false:=x;rw [band,fE]at e;rintro ⟨a,b⟩;rw [a,(Xm _ _).1 b]at e;cases e);refine sk (sq (sq (rgs [] rfl ?_ ?_)));{simp [ay,under];exact λ_=>y};refine cd rfl (λg=>?_) (λg=>?_);{(have hz:((aA (aP f i) k).send&&p.chans.getD (aA (aP f i) k).chan.toNat 0==0)=true:=by have e:(bif (aA (aP f i) k).send then p.chans.getD (aA (aP f i) k).chan.toNat 0==0 else false)=true:=g;rwa [band]at e);refine sg rfl (rX ?_);refine bn hT (by rfl) ?_;rw [kL c hn (mP d hc (by rw [oW,MC (λh=>h hb),MC t,aaW hz]) (by decide)) (by decide)]};(have hz:¬ ((aA (aP f i) k).send&&p.chans.getD (aA (aP f i) k).chan.toNat 0==0)=true:=by have e:(bif (aA (aP f i) k).send then p.chans.getD (aA (aP f i) k).chan.toNat 0==0 else false)=false:=g;rw [band]at e;rw [e];decide);(have q:oW p f (aA (aP f i) k)=dZ f (aA (aP f i) k).to:=by rw [oW,MC (λh=>h hb),MC t,MC hz]);refine sk (sq (rgs [CG.pure (.bool (dI (aA (aP f i) k).to f.code.length))] rfl ?_ ?_));{have o:=iR (aA (aP f i) k).to f.code.length;refine ⟨⟨rfl,rfl⟩,?_⟩;exact o};refine cd rfl (λl=>?_) (λl=>?_);{(have ht:dZ f (aA (aP f i) k).to=38:=by(have e:dI (aA (aP f i) k).to f.code.length=false:=by simpa using l);rw [dZ,e];rfl);refine sg rfl (rX ?_);refine bn hT (by rfl) ?_;rw [kL c hn (mP d hc (by rw [q,ht]) (by decide)) (by decide)]};(have ht:dZ f (aA (aP f i) k).to=0:=by(have e:dI (aA (aP f i) k).to f.code.length=true:=by simpa using l);rw [dZ,aaW e]);refine sk (rg [] rfl ?_);refine ⟨k+1,?_,?_,?_⟩;{exact ⟨d,iV hc (by rw [q,ht])⟩};{refine eX cX trivial};(try simp only []);first | omega | grind};(have d:k=(aP f i).cases.length:=by simp only [acK]at v;omega);subst d;(have r:DC p f (aP f i)=zk f (aP f i):=by rw [DC,lJ hc];simp);refine xt (sq (rgs [CG.pure (.bool (dI (aP f i).els f.code.length))] rfl ?_ ?_));{have o:=iR (aP f i).els f.code.length;simp [ay,under,CG.pure];exact λ_=>o};refine cd rfl (λn=>?_) (λn=>?_);{(have he:zk f (aP f i)=38:=by have e:(bif (aP f i).els != -1 then !dI (aP f i).els f.code.length else false)=true:=n;rw [band,abh,aeH]at e;rw [zk,aaW (by simpa using e.1),dZ,e.2];rfl);refine sg rfl (rX ?_);refine bn hT (by rfl) ?_;rw [kL c hn (by rw [r,he]) (by decide)]};(have he:zk f (aP f i)=0:=by have e:(bif (aP f i).els != -1 then !dI (aP f i).els f.code.length else false)=false:=n;rw [band]at e;rw [zk];split;{rename_i h1;rw [show ((aP f i).els != -1)=true by simpa using h1,adG]at e;rw [dZ,aaW (by simpa using e)]};rfl);refine sk (rg [] rfl ?_);refine ⟨i+1,?_,?_,?_⟩;{exact ⟨c,iV hn (by rw [r,he])⟩};{refine eX cX trivial};(try simp only []);first | omega | grind};(have c:i=f.sels.length:=by simp at u;omega);subst c;refine xt (sq (rg [] rfl ?_));exact WP.ret (bn hT (by rfl) (by rw [rH,lJ hn]))
def fkE {α:Type} (g:α->Int):List α->Nat
 | []=>0
 | x::r=>if g x≠0 then 0 else fkE g r+1
theorem Rf {α:Type} {g:α->Int} {d:α}:∀ {l:List α} {i:Nat},i<l.length->(∀ j,j<i->g (l.getD j d)=0)->g (l.getD i d)≠0->fkE g l=i
 | x::r,0,_,_,hb=>by have a:g x≠0:=hb;rw [fkE,aaW a]
 | x::r,i+1,hi,hn,hb=>by have b:=hn 0 (by omega);rw [fkE,MC (by simpa using b)];rw [Rf (l:=r) (i:=i) (by simpa using hi) (λj c=>hn (j+1) (by omega)) hb]
def yj (a b:Int):AV:=bI 128 [.int a,.int b]
def yD (f:fZ):Int:=(f.code.getD (f.code.length - 1) nR).op
def uK (op:Int):Bool:=op==42||op==45||op==61
theorem Rl {x:Int} (h:(x==42)=true):uK x=true:=by rw [uK,h];rfl
theorem Rk {x:Int} (h:(x==45)=true):uK x=true:=by rw [uK,h];simp
theorem Rj {x:Int} (h:(x==61)=true):uK x=true:=by rw [uK,h];simp
theorem TL {x:Int} (a:(x==42)=false) (b:(x==45)=false) (c:(x==61)=false):uK x=false:=by rw [uK,a,b,c];rfl
def uo (p:aj) (f:fZ) (main:Bool):Int×Int :=
 if fV f main=false then (32,0)else if rH p f≠0 then (rH p f,0)else
 if AU (jo p f) f.code≠0 then (AU (jo p f) f.code,fkE (jo p f) f.code)else
 if uK (yD f)then (0,0)else (39,(f.code.length:Int) - 1)
abbrev aY (p:aj) (i:Nat):fZ:=p.funcs.getD i lI
def rM (p:aj):Nat->Nat->Int×Int×Int
 | 0,_=>(0,0,0)
 | n+1,i=>if (uo p (aY p i) (i==0)).1≠0 then ((uo p (aY p i) (i==0)).1,i,(uo p (aY p i) (i==0)).2)else rM p n (i+1)
def pG (p:aj):Int×Int×Int:=if kT p≠0 then (kT p,0,0)else rM p p.funcs.length 0
theorem vH {p:aj}:∀ {i n:Nat},i<=n->(∀ j,j<i->(uo p (aY p j) (j==0)).1=0)->rM p n 0=rM p (n - i) i
 | 0,n,_,_=>rfl
 | i+1,n,h,hn=>by rw [vH (i:=i) (by omega) (λj a=>hn j (by omega)),show n - i=(n - (i+1))+1 by omega,rM,MC (λh=>h (hn i (by omega)))]
theorem rU {p:aj} {i:Nat} {e pc:Int} (hw:kT p=0) (hi:i<p.funcs.length) (hn:∀ j,j<i->(uo p (aY p j) (j==0)).1=0) (he:uo p (aY p i) (i==0)=(e,pc)) (a:e≠0):pG p=(e,(i:Int),pc):=by
 rw [pG,MC (by simp [hw]),vH (Nat.le_of_lt hi) hn,show p.funcs.length - i=(p.funcs.length - i - 1)+1 by omega,rM,he,aaW a]
theorem PE {p:aj} (hw:kT p=0) (hn:∀ j,j<p.funcs.length->(uo p (aY p j) (j==0)).1=0):pG p=(0,0,0):=by
 rw [pG,MC (by simp [hw]),vH (aa4 _) hn,Nat.sub_self];rfl
def zl (p:aj):AV := .tup [.int (pG p).1,yj (pG p).2.1 (pG p).2.2]
theorem QK (a b:Int):fJ (yj a b)=true:=rfl
theorem lK {nt:Nat} {st:St} {p:aj} {e a b:Int} {B:zQ} (hc:pG p=(e,a,b)) (i:st.t 2=some (.always,.int e)) (j:st.t 3=some (.always,.ptr (.s 3 0) 1 0 [])) (hm:st.m (.s 3 0)=some (.cells B)) (f:B.ty=128) (d:B.n=1) (c:B.fz=0) (h:Conv st.m (λid=>dO id []) T (B.get 0) (yj a b)):Fin T aI nt 0 [.tmp 2,.cell 3 128] (zl p) [] st:=by
 obtain ⟨ty,n,get,fz⟩:=B;simp only at f d c h;subst f d c;rw [zl,hc];refine Fin.ent (uM.mk (P:=Tryz.prog) hT [] (ts:=[(2,.int e),(3,.ptr (.s 3 0) 1 0 [])]) (ms:=[(.s 3 0,.cells ⟨128,1,λ_=>yj a b,0⟩)]) trivial ⟨⟨rfl,_,i,ah rfl⟩,⟨rfl,_,j,ah rfl⟩,tt⟩ ⟨⟨λ_ _=>rfl,.inl ⟨_,hm,_,_,rfl,aa4 _,abO _,abO _,λq g=>?_⟩⟩,tt⟩ rfl) ?_
 ·(obtain rfl:q=0:=by simp at g;exact g);exact h
 refine aG hT [(.s 3 0,1)] (ts:=[(2,.int e),(3,.rp 128 (yj a b))]) (l:=[.int e,yj a b]) ⟨⟨_,rfl,aa4 _⟩,tt⟩ ⟨⟨rfl,_,rfl,ah rfl⟩,⟨rfl,_,rfl,?_⟩,tt⟩ trivial rfl rfl rfl;exact bG rfl rfl (by simp [dO,aT]) rfl rfl (QK a b)
theorem DR (p:aj):AC Tryz.prog T aI 111 [ak p] [] (zl p) []:=by
 refine aX Tryz.func111 ?_;refine sg rfl (sq (sq (rgs [CG.pure (.int (kT p))] rfl ?_ ?_)))
 ·have hw:=V8 p;exact ⟨rfl,hw⟩
 refine sg rfl (cd rfl (λu=>?_) (λu=>?_))
 ·(have hw:kT p≠0:=by simpa using u);refine sg rfl (rX ?_);refine lK (e:=kT p) (a:=0) (b:=0) (by rw [pG,aaW hw]) rfl rfl rfl rfl rfl rfl ?_;exact ah rfl
 ·have hw:kT p=0:=by simpa using u
  have a5:p.funcs.length<=8:=by(have y:szB p=false:=by unfold kT at hw;split at hw;{cases hw};rename_i h;simpa using h);simp [szB]at y;omega
  refine sk (sq (sq (rg [] rfl ?_)))
  refine bk (WP.loop (α:=Nat) (λi=>aN [(1,.rp 26 (ak p)),(3,.ptr (.s 3 0) 1 0 []),(21,rowP 100 jA lI p.funcs),(22,.int p.funcs.length),(23,.int i)] [(.s 3 0,.cells ⟨128,1,λ_=>yj 0 0,0⟩)]) (λi=>i<=p.funcs.length /\ ∀ j,j<i->(uo p (aY p j) (j==0)).1=0) (λi=>p.funcs.length - i) ?_ ?_)
  ·refine ⟨0,?_,?_⟩;{exact ⟨abO _,λj hj=>by omega⟩};refine em [(.s 1 0,1)] ⟨⟨_,rfl,aa4 _⟩,tt⟩ ⟨⟨rfl,_,rfl,bG rfl rfl (by decide) rfl rfl rfl⟩,cq,cq,cq,cq,tt⟩ ⟨obs rfl,tt⟩
  ·rintro i ⟨hi,hn⟩
   refine sg rfl (sq ?_)
   refine cd rfl (λz=>?_) (λz=>?_)
   ·have c:i<p.funcs.length:=by simpa using z
    refine sk (sq (bk (sq (rgs [] rfl ?_ ?_))))
    ·simp [ay,under];omega
    refine sq (sq (rgs [CG.pure (.int (if fV (aY p i) (i==0)then 0 else 32))] rfl ?_ ?_))
    ·have x:=WL (aY p i) (i==0);(have ei:((i:Int)==0)=(i==0):=by rw [acC];simp);refine ⟨rfl,?_⟩;(have a1:AC Tryz.prog T aI 155 [jA (aY p i),.bool ((i:Int)==0)] [] (.int (if fV (aY p i) (i==0)then 0 else 32)) []:=by rw [ei];exact x);exact a1
    refine sg rfl (cd rfl (λv=>?_) (λv=>?_))
    ·(have hb:fV (aY p i) (i==0)=false:=by cases x:fV (aY p i) (i==0)with| false=>rfl| true=>rw [x]at v;simp at v);refine sg rfl (rX ?_);exact lK (e:=(if fV (aY p i) (i==0)then 0 else 32)) (a:=i) (b:=0) (by rw [hb];exact rU (e:=32) hw c hn (by rw [uo,aaW hb]) (by decide)) rfl rfl rfl rfl rfl rfl (ah (bY (λq=>by match q with | 0 | 1 | q+2=>rfl)))
    ·have hb:fV (aY p i) (i==0)=true:=by cases x:fV (aY p i) (i==0)with| true=>rfl| false=>rw [x]at v;simp at v
     have a0:(aY p i).code.length<=64/\1<=(aY p i).code.length:=by(have y:Qd (aY p i) (i==0)=true:=by have u:=hb;rw [fV,abh]at u;exact u.1);rw [qZ]at y;omega
     refine sk (sq (rg [] rfl ?_))
     refine sq (sq ?_)
     refine wF [(.s 6 0,1),(.s 40 0,1)] ⟨⟨_,rfl,aa4 _⟩,⟨_,rfl,aa4 _⟩,tt⟩ [(1,.rp 26 (ak p)),(3,.ptr (.s 3 0) 1 0 []),(5,.int i),(6,.rp 100 (jA (aY p i))),(8,.rp 257 (zi p (aY p i))),(21,rowP 100 jA lI p.funcs),(22,.int p.funcs.length),(23,.int i)] [(.s 3 0,.cells ⟨128,1,λ_=>yj 0 0,0⟩)] ⟨cq,cq,cq,⟨rfl,_,rfl,bG rfl rfl (by decide) rfl rfl rfl⟩,⟨rfl,_,rfl,bG rfl rfl (by decide) rfl (bY (λq=>by match q with | 0 | 1 | q+2=>rfl)) rfl⟩,cq,cq,cq,tt⟩ ⟨obs rfl,tt⟩ (rgs [CG.pure (.int (rH p (aY p i)))] rfl ?_ ?_)
     ·have n:=Ql p (aY p i) (i==0) hb;exact n
     refine sg rfl (cd rfl (λo=>?_) (λo=>?_))
     ·(have n:rH p (aY p i)≠0:=by simpa using o);refine sg rfl (rX ?_);exact lK (e:=rH p (aY p i)) (a:=i) (b:=0) (rU hw c hn (by rw [uo,MC (by rw [hb];decide),aaW n]) n) rfl rfl rfl rfl rfl rfl (ah (bY (λq=>by match q with | 0 | 1 | q+2=>rfl)))
     ·have n:rH p (aY p i)=0:=by simpa using o
      refine sk (sq (sq (rg [] rfl ?_)))
      refine bk (WP.loop (α:=Nat) (λk=>aN [(1,.rp 26 (ak p)),(3,.ptr (.s 3 0) 1 0 []),(5,.int i),(6,.rp 100 (jA (aY p i))),(8,.rp 257 (zi p (aY p i))),(21,rowP 100 jA lI p.funcs),(22,.int p.funcs.length),(23,.int i),(49,rowP 120 aU nR (aY p i).code),(50,.int (aY p i).code.length),(51,.int k)] [(.s 3 0,.cells ⟨128,1,λ_=>yj 0 0,0⟩)]) (λk=>k<=(aY p i).code.length /\ ∀ j,j<k->jo p (aY p i) ((aY p i).code.getD j nR)=0) (λk=>(aY p i).code.length - k) ?_ ?_)
      ·refine ⟨0,?_,?_⟩;{exact ⟨abO _,λj hj=>by omega⟩};refine eX cX ⟨obs rfl,tt⟩
      ·rintro k ⟨hk,hc⟩
       refine sg rfl (sq ?_)
       refine cd rfl (λr=>?_) (λr=>?_)
       ·(have g:k<(aY p i).code.length:=by simpa using r);refine sk (sq (bk (sq (rgs [] rfl ?_ ?_))));{have a3:k<(p.funcs[i]?.getD lI).code.length:=g;simp [ay,under];omega};refine sq (rgs [CG.pure (.int (jo p (aY p i) ((aY p i).code.getD k nR)))] rfl ?_ ?_);{have hx:=XZ p (aY p i) ((aY p i).code.getD k nR);refine ⟨rfl,?_⟩;exact hx};refine sg rfl (cd rfl (λt=>?_) (λt=>?_));{(have hx:jo p (aY p i) ((aY p i).code.getD k nR)≠0:=by simpa using t);refine sg rfl (rX ?_);exact lK (e:=jo p (aY p i) ((aY p i).code.getD k nR)) (a:=i) (b:=k) (rU hw c hn (by rw [uo,MC (by rw [hb];decide),MC (λh=>h n),xU g hc hx,Rf g hc hx,aaW hx]) hx) rfl rfl rfl rfl rfl rfl (ah (bY (λq=>by match q with | 0 | 1 | q+2=>rfl)))};(have hx:jo p (aY p i) ((aY p i).code.getD k nR)=0:=by simpa using t);refine sk (rg [] rfl ?_);refine ⟨k+1,?_,?_,?_⟩;{exact ⟨g,iV hc hx⟩};{refine eX cX ⟨obs rfl,tt⟩};(try simp only []);first | omega | grind
       ·have g:k=(aY p i).code.length:=by simp only [acK]at r;omega
        subst g
        refine xt (sq (rg [] rfl ?_))
        refine sq (rgs [] rfl ?_ ?_)
        ·have a2:(p.funcs[i]?.getD lI).code.length<=64/\1<=(p.funcs[i]?.getD lI).code.length:=a0;simp [ay,under];rw [bK (by omega) (by omega)];omega
        refine bk (sq (sq ?_))
        have w:(aY p i).code.getD (IntKind.i64.wrap (((aY p i).code.length:Int) - 1)).toNat nR=(aY p i).code.getD ((aY p i).code.length - 1) nR:=by rw [bK (by omega) (by omega)];congr 1;omega
        have l:((aY p i).code.getD (IntKind.i64.wrap (((aY p i).code.length:Int) - 1)).toNat nR).op=yD (aY p i):=by rw [w];rfl
        refine rg [] rfl (cd rfl (λd=>?_) (λd=>?_))
        ·refine sk (cd rfl (λd=>?_) (λd=>?_));{refine sk (rg [] rfl ?_);refine ⟨i+1,?_,?_,?_⟩;{refine ⟨c,iV hn ?_⟩;(have he:uK (yD (aY p i))=true:=by first | exact Rl (by rw [<- l];exact d) | exact Rk (by rw [<- l];exact f) | exact Rj (by rw [<- l];exact m));rw [uo,MC (by rw [hb];decide),MC (λh=>h n),MC (λh=>h (lJ hc)),aaW he]};{refine eX cX ⟨obs rfl,tt⟩};(try simp only []);first | omega | grind};simp_all
        ·refine sg rfl (cd rfl (λf=>?_) (λf=>?_))
         ·refine sk (cd rfl (λf=>?_) (λf=>?_));{refine sk (rg [] rfl ?_);refine ⟨i+1,?_,?_,?_⟩;{refine ⟨c,iV hn ?_⟩;(have he:uK (yD (aY p i))=true:=by first | exact Rl (by rw [<- l];exact d) | exact Rk (by rw [<- l];exact f) | exact Rj (by rw [<- l];exact m));rw [uo,MC (by rw [hb];decide),MC (λh=>h n),MC (λh=>h (lJ hc)),aaW he]};{refine eX cX ⟨obs rfl,tt⟩};(try simp only []);first | omega | grind};simp_all
         ·refine rg [] rfl (cd rfl (λm=>?_) (λm=>?_))
          ·refine sk (rg [] rfl ?_);refine ⟨i+1,?_,?_,?_⟩;{refine ⟨c,iV hn ?_⟩;(have he:uK (yD (aY p i))=true:=by first | exact Rl (by rw [<- l];exact d) | exact Rk (by rw [<- l];exact f) | exact Rj (by rw [<- l];exact m));rw [uo,MC (by rw [hb];decide),MC (λh=>h n),MC (λh=>h (lJ hc)),aaW he]};{refine eX cX ⟨obs rfl,tt⟩};(try simp only []);first | omega | grind
          ·refine sg rfl (rX ?_)
           have he:uK (yD (aY p i))=false:=TL (by rw [<- l];exact d) (by rw [<- l];exact f) (by rw [<- l];exact m)
           exact lK (e:=39) (a:=i) (b:=IntKind.i64.wrap (((aY p i).code.length:Int) - 1)) (by
            rw [bK (by omega) (by omega)]
            exact rU hw c hn (by rw [uo,MC (by rw [hb];decide),MC (λh=>h n),MC (λh=>h (lJ hc)),MC (by rw [he];decide)]) (by decide)) rfl rfl rfl rfl rfl rfl (ah (bY (λq=>by match q with | 0 | 1 | q+2=>rfl)))
   (have c:i=p.funcs.length:=by simp at z;omega)
   subst c
   refine xt (sq (rg [] rfl ?_))
   exact WP.ret (lK (e:=0) (a:=0) (b:=0) (PE hw hn) rfl rfl rfl rfl rfl rfl (ah rfl))
structure iP where
 status:Int
 func:Int
 pc:Int
 why:Int
 regs:List Int
 deriving DecidableEq
structure iO where
 buf:List Int
 len:Int
 closed:Bool
 offer:Int
 frm:Int
 val:Int
 deriving DecidableEq
structure bM where
 vars:List Int
 owner:List Int
 chans:List iO
 gos:List iP
 count:Int
 deriving DecidableEq
def go0:iP:=⟨0,0,0,0,[0,0,0,0,0,0,0,0]⟩
def Bd:iO:=⟨[0,0,0,0],0,false,0,0,0⟩
def st0:bM:=⟨[0,0,0,0,0,0,0,0],[0,0,0,0],[Bd,Bd,Bd,Bd],[go0,go0,go0,go0,go0,go0],0⟩
def Az (g:iP):Prop:=g.regs.length=8
def DX (c:iO):Prop:=c.buf.length=4
structure mZ (s:bM):Prop where
 vars:s.vars.length=8
 owner:s.owner.length=4
 chans:s.chans.length=4
 gos:s.gos.length=6
 ch:∀ c∈s.chans,DX c
 go:∀ g∈s.gos,Az g
def bW (g:iP):AV:=bI 59 [.int g.status,.int g.func,.int g.pc,.int g.why,kY 52 8 .i64 g.regs]
def dY (c:iO):AV:=bI 56 [kY 54 4 .i64 c.buf,.int c.len,.bool c.closed,.int c.offer,.int c.frm,.int c.val]
def zq {α:Type} (t n:Nat) (enc:α->AV) (d:α) (l:List α):AV := .agg t n (λi=>enc (l.getD i d))
def encS (s:bM):AV:=bI 62 [kY 52 8 .i64 s.vars,kY 53 4 .i64 s.owner,zq 57 4 dY Bd s.chans,zq 60 6 bW go0 s.gos,.int s.count]
theorem PX {α:Type} {t n k:Nat} {enc:α->AV} {d x:α} {l:List α} {p:List Nat} {y:AV} (h:k<l.length) (e:(enc (l.getD k d)).put p y=enc x):(zq t n enc d l).put (k::p) y=zq t n enc d (l.set k x):=by
 simp only [zq,AV.put,AV.agg.injEq,true_and];funext j;cases a:Nat.beq j k with| true=>have:=abM a;subst this;simp only [adq];rw [e];simp [h]| false=>(have:¬ k=j:=λe=>by subst e;simp at a);simp [this]
theorem SN (ids:List Id) (s:bM):fP ids (encS s)=true:=rfl
theorem gu (g:iP) (x:Int):(bW g).put [0] (.int x)=bW { g with status:=x}:=dB (ab6 rfl)
theorem qg (g:iP) (x:Int):(bW g).put [2] (.int x)=bW { g with pc:=x}:=dB (ab6 rfl)
theorem DN (g:iP) (x:Int):(bW g).put [3] (.int x)=bW { g with why:=x}:=dB (ab6 rfl)
theorem kN {g:iP} {k:Nat} (x:Int) (h:k<g.regs.length):(bW g).put [4,k] (.int x)=bW { g with regs:=g.regs.set k x}:=(dB (ab6 rfl)).trans (by rw [show ([AV.int g.status,.int g.func,.int g.pc,.int g.why,kY 52 8 .i64 g.regs].getD 4 .bad)=kY 52 8 .i64 g.regs from rfl,zo h];rfl)
theorem Gz (g:iP) (l:List Int):(bW g).put [4] (kY 52 8 .i64 l)=bW { g with regs:=l}:=dB (ab6 rfl)
theorem SE (g x:iP):(bW g).put [] (bW x)=bW x:=by cases g;rfl
theorem wC {c:iO} {k:Nat} (x:Int) (h:k<c.buf.length):(dY c).put [0,k] (.int x)=dY { c with buf:=c.buf.set k x}:=(dB (ab6 rfl)).trans (by rw [show ([kY 54 4 .i64 c.buf,AV.int c.len,.bool c.closed,.int c.offer,.int c.frm,.int c.val].getD 0 .bad)=kY 54 4 .i64 c.buf from rfl,zo h];rfl)
theorem sZ (c:iO) (x:Int):(dY c).put [1] (.int x)=dY { c with len:=x}:=dB (ab6 rfl)
theorem xI (c:iO) (x:Bool):(dY c).put [2] (.bool x)=dY { c with closed:=x}:=dB (ab6 rfl)
theorem jS (c:iO) (x:Int):(dY c).put [3] (.int x)=dY { c with offer:=x}:=dB (ab6 rfl)
theorem wB (c:iO) (x:Int):(dY c).put [4] (.int x)=dY { c with frm:=x}:=dB (ab6 rfl)
theorem mV (c:iO) (x:Int):(dY c).put [5] (.int x)=dY { c with val:=x}:=dB (ab6 rfl)
theorem wu {s:bM} {k:Nat} (x:Int) (h:k<s.vars.length):(encS s).put [0,k] (.int x)=encS { s with vars:=s.vars.set k x}:=(dB (ab6 rfl)).trans (acY (λz=>bI 62 [z,kY 53 4 .i64 s.owner,zq 57 4 dY Bd s.chans,zq 60 6 bW go0 s.gos,.int s.count]) (zo h))
theorem BQ {s:bM} {k:Nat} (x:Int) (h:k<s.owner.length):(encS s).put [1,k] (.int x)=encS { s with owner:=s.owner.set k x}:=(dB (ab6 rfl)).trans (acY (λz=>bI 62 [kY 52 8 .i64 s.vars,z,zq 57 4 dY Bd s.chans,zq 60 6 bW go0 s.gos,.int s.count]) (zo h))
theorem uU {s:bM} {k:Nat} {p:List Nat} {y:AV} {c:iO} (h:k<s.chans.length) (e:(dY (s.chans.getD k Bd)).put p y=dY c):(encS s).put (2::k::p) y=encS { s with chans:=s.chans.set k c}:=(dB (ab6 rfl)).trans (acY (λz=>bI 62 [kY 52 8 .i64 s.vars,kY 53 4 .i64 s.owner,z,zq 60 6 bW go0 s.gos,.int s.count]) (PX h e))
theorem ng {s:bM} {k:Nat} {p:List Nat} {y:AV} {g:iP} (h:k<s.gos.length) (e:(bW (s.gos.getD k go0)).put p y=bW g):(encS s).put (3::k::p) y=encS { s with gos:=s.gos.set k g}:=(dB (ab6 rfl)).trans (acY (λz=>bI 62 [kY 52 8 .i64 s.vars,kY 53 4 .i64 s.owner,zq 57 4 dY Bd s.chans,z,.int s.count]) (PX h e))
theorem xH (s:bM) (x:Int):(encS s).put [4] (.int x)=encS { s with count:=x}:=dB (ab6 rfl)
theorem ac3 (s t:bM):(encS s).put [] (encS t)=encS t:=by cases s;rfl
abbrev goI (s:bM) (g:Int):iP:=s.gos.getD g.toNat go0
abbrev bV (s:bM) (c:Int):iO:=s.chans.getD c.toNat Bd
abbrev jv (s:bM) (v:Int):Int:=s.vars.getD v.toNat 0
abbrev mM (s:bM) (v:Int):Int:=s.owner.getD v.toNat 0
abbrev bD (g:iP) (r:Int):Int:=g.regs.getD r.toNat 0
theorem uf:mZ st0:=⟨rfl,rfl,rfl,rfl,by simp [st0,Bd,DX],by simp [st0,go0,Az]⟩
def eG (p:aj):Bool:=(pG p).1==0
theorem wR {α:Type} {g:α->Int}:∀ {l:List α},AU g l=0 -> ∀ x∈l,g x=0
 | y::r,h,x,hx=>by rw [AU]at h;split at h;{rename_i a;exact absurd h a};rename_i b;rcases List.mem_cons.1 hx with rfl | hx;{simpa using b};exact wR h x hx
theorem zX {p:aj}:∀ {n i:Nat},(rM p n i).1=0 -> ∀ j,i<=j->j<i+n->(uo p (aY p j) (j==0)).1=0
 | 0,i,_,j,h1,h2=>by omega
 | n+1,i,h,j,h1,h2=>by rw [rM]at h;split at h;{rename_i a;exact absurd h a};rename_i b;by_cases e:j=i;{subst e;simpa using b};exact zX h j (by omega) (by omega)
def iT (f:fZ) (n:Int):Prop:=0<=n/\n<f.regs
def bg (n:Int) (m:Nat):Prop:=0<=n/\n<m
structure Dt (p:aj) (f:fZ) (x:iG):Prop where
 op:nP x.op=true\/yF x.op=true
 num:1<=x.op/\x.op<=36->iT f x.a/\iT f x.b
 num2:16<=x.op/\x.op<=36->iT f x.c
 const:x.op=40\/x.op=44\/x.op=65\/x.op=63\/x.op=43->iT f x.a
 move:x.op=41->iT f x.a/\iT f x.b
 jump:x.op=42->bg x.a f.code.length
 cond:x.op=43->bg x.b f.code.length
 load:x.op=50->iT f x.a/\bg x.b p.vars.length
 store:x.op=51\/x.op=54->iT f x.b/\bg x.a p.vars.length
 bump:x.op=52->(x.a = -1\/iT f x.a)/\bg x.b p.vars.length/\iT f x.c
 cas:x.op=53->iT f x.a/\bg x.b p.vars.length/\iT f x.c/\iT f x.n
 lock:x.op=55\/x.op=56->0<=x.a/\x.a<p.locks
 try_:x.op=57->iT f x.a/\0<=x.b/\x.b<p.locks
 send:x.op=58->bg x.a p.chans.length/\iT f x.b
 recv:x.op=59->(x.a = -1\/iT f x.a)/\bg x.b p.chans.length/\(x.c = -1\/iT f x.c)
 close:x.op=60->bg x.a p.chans.length
 sel:x.op=61->bg x.a f.sels.length
 spawn:x.op=62->(x.a = -1\/iT f x.a)/\bg x.b p.funcs.length/\(∀ g,g=p.funcs.getD x.b.toNat lI->(g.params=0/\x.c=0)\/0<g.params/\0<=x.c/\(x.c<=IntKind.i64.wrap (f.regs - g.params)))
theorem Ii {p:aj} {f:fZ} {x:iG}:∀ {n:Nat},qG p f x n=0 -> ∀ k,k<n->aS p f (su x.op k) ((EY x).getD k 0) x=0
 | n+1,h,k,hk=>by rw [qG]at h;split at h;{rename_i a;exact absurd h a};rename_i b;by_cases e:k=n;{subst e;exact h};exact Ii (by simpa using b) k (by omega)
theorem Fh {f:fZ} {n:Int} (h:eH f n=0):iT f n:=by
 unfold eH at h;split at h
 ·rename_i hw;simpa [dI,iT]using hw
 cases h
theorem Ko {f:fZ} {n:Int} (h:dZ f n=0):bg n f.code.length:=by
 unfold dZ at h;split at h
 ·rename_i hw;simpa [dI,bg]using hw
 cases h
theorem Y2 {p:aj} {n:Int} (h:dw p n=0):bg n p.vars.length:=by
 unfold dw at h;split at h
 ·rename_i hw;simpa [dI,bg]using hw
 cases h
theorem ZP {f:fZ} {n k:Int} (h:kF f n k=0):(k=0/\n=0)\/k<0\/(0<k/\0<=n/\n<=IntKind.i64.wrap (f.regs - k)):=by
 unfold kF at h;split at h
 ·cases h
 rename_i a;simp at a;omega
theorem kV {p:aj} {f:fZ} {x:iG} {c n:Int} (h:aS p f c n x=0) :
 (c=111->n = -1\/iT f n)/\(c=114->iT f n)/\(c=119->iT f n)/\(c=118->bg n p.vars.length)/\(c=97->bg n p.vars.length)/\(c=108->0<=n/\n<p.locks)/\(c=99->bg n p.chans.length) /\
 (c=115->bg n f.sels.length)/\(c=102->bg n p.funcs.length)/\(c=116->bg n f.code.length)/\(c=112->kF f n (p.funcs.getD x.b.toNat lI).params=0):=by
 refine ⟨?_,?_,?_,?_,?_,?_,?_,?_,?_,?_,?_⟩ <;> (intro e;subst e;simp [aS]at h)
 ·by_cases e:n = -1
  ·exact .inl e
  ·exact .inr (Fh (by simpa [e]using h))
 ·exact Fh h
 ·exact Fh h
 ·exact rD h
 ·exact Y2 h
 ·exact rD h
 ·exact rD h
 ·exact rD h
 ·exact rD h
 ·exact Ko h
 ·exact h
theorem abJ {p:aj} {f:fZ} {x:iG} (hf:∀ g∈p.funcs,0<=g.params) (h:jo p f x=0):Dt p f x:=by
 have o:jT x.op≠[]:=by intro e;simp [jo,e]at h
 have he:qG p f x 4=0:=by unfold jo at h;rw [MC o]at h;split at h;{cases h};exact h
 have hl:∀ k,k<4->su x.op k=(((jT x.op)[k]?.getD 0).toNat:Nat):=λk _=>XV _ _;have H:∀ k,k<4 -> ∀ c:Int,(((jT x.op)[k]?.getD 0).toNat:Nat)=c->aS p f c ((EY x).getD k 0) x=0:=λk hk c hc=>by have:=Ii he k hk;rwa [hl k hk,hc]at this
 have y:(1<=x.op/\x.op<=36)\/(40<=x.op/\x.op<=45)\/(50<=x.op/\x.op<=65):=by revert o;refine CX (Q:=λl=>l≠[]->_) x.op ?_ ?_ ?_ ?_ ?_ ?_ ?_ ?_ ?_ ?_ ?_ ?_ ?_ ?_ ?_ ?_ ?_ ?_ ?_ ?_ ?_;all_goals first | (intro i _;omega) | (intro _ i;exact absurd rfl i)
 have d:=λc hc=>H 0 (by decide) c hc;have i:=λc hc=>H 1 (by decide) c hc;have j:=λc hc=>H 2 (by decide) c hc;have s:=λc hc=>H 3 (by decide) c hc;have t:(EY x).getD 0 0=x.a:=rfl;have u:(EY x).getD 1 0=x.b:=rfl;have v:(EY x).getD 2 0=x.c:=rfl;have w:(EY x).getD 3 0=x.n:=rfl;rw [t]at d;rw [u]at i;rw [v]at j;rw [w]at s;have F1:1<=x.op/\x.op<=15->jT x.op=[114,114,45,45]:=λh=>by rw [jT,aaW h]
 have r:16<=x.op/\x.op<=36->jT x.op=[114,114,114,45]:=λh=>by rw [jT,MC (by omega),aaW h]
 have R:=λn h=>(kV (p:=p) (f:=f) (x:=x) (c:=114) (n:=n) h).2.1 rfl;refine ⟨?_,?_,?_,?_,?_,?_,?_,?_,?_,?_,?_,?_,?_,?_,?_,?_,?_,?_⟩
 ·simp [nP,yF];omega
 ·intro h;rcases Int.lt_or_le 15 x.op with q | q;{have e:=r (by omega);exact ⟨R _ (d 114 (by rw [e];rfl)),R _ (i 114 (by rw [e];rfl))⟩};have e:=F1 (by omega);exact ⟨R _ (d 114 (by rw [e];rfl)),R _ (i 114 (by rw [e];rfl))⟩
 ·intro h;have e:=r h;exact R _ (j 114 (by rw [e];rfl))
 ·rintro (h | h | h | h | h) <;> exact R _ (d 114 (by rw [h];rfl))
 ·intro h;exact ⟨R _ (d 114 (by rw [h];rfl)),R _ (i 114 (by rw [h];rfl))⟩
 ·intro h;exact (kV (d 116 (by rw [h];rfl))).2.2.2.2.2.2.2.2.2.1 rfl
 ·intro h;exact (kV (i 116 (by rw [h];rfl))).2.2.2.2.2.2.2.2.2.1 rfl
 ·intro h;exact ⟨R _ (d 114 (by rw [h];rfl)),(kV (i 118 (by rw [h];rfl))).2.2.2.1 rfl⟩
 ·rintro (h | h);{exact ⟨R _ (i 114 (by rw [h];rfl)),(kV (d 118 (by rw [h];rfl))).2.2.2.1 rfl⟩};exact ⟨R _ (i 114 (by rw [h];rfl)),(kV (d 97 (by rw [h];rfl))).2.2.2.2.1 rfl⟩
 ·intro h;exact ⟨(kV (d 111 (by rw [h];rfl))).1 rfl,(kV (i 97 (by rw [h];rfl))).2.2.2.2.1 rfl,R _ (j 114 (by rw [h];rfl))⟩
 ·intro h;exact ⟨R _ (d 114 (by rw [h];rfl)),(kV (i 97 (by rw [h];rfl))).2.2.2.2.1 rfl,R _ (j 114 (by rw [h];rfl)),(kV (s 119 (by rw [h];rfl))).2.2.1 rfl⟩
 ·rintro (h | h) <;> exact (kV (d 108 (by rw [h];rfl))).2.2.2.2.2.1 rfl
 ·intro h;exact ⟨R _ (d 114 (by rw [h];rfl)),(kV (i 108 (by rw [h];rfl))).2.2.2.2.2.1 rfl⟩
 ·intro h;exact ⟨(kV (d 99 (by rw [h];rfl))).2.2.2.2.2.2.1 rfl,R _ (i 114 (by rw [h];rfl))⟩
 ·intro h;exact ⟨(kV (d 111 (by rw [h];rfl))).1 rfl,(kV (i 99 (by rw [h];rfl))).2.2.2.2.2.2.1 rfl,(kV (j 111 (by rw [h];rfl))).1 rfl⟩
 ·intro h;exact (kV (d 99 (by rw [h];rfl))).2.2.2.2.2.2.1 rfl
 ·intro h;exact (kV (d 115 (by rw [h];rfl))).2.2.2.2.2.2.2.1 rfl
 intro h;have hb:=(kV (i 102 (by rw [h];rfl))).2.2.2.2.2.2.2.2.1 rfl;refine ⟨(kV (d 111 (by rw [h];rfl))).1 rfl,hb,λg hg=>?_⟩;have hp:=ZP ((kV (j 112 (by rw [h];rfl))).2.2.2.2.2.2.2.2.2.2 rfl);rw [<- hg]at hp;(have hm:g∈p.funcs:=by(have m:x.b.toNat<p.funcs.length:=by have:=hb.1;have:=hb.2;omega);rw [hg,aaV,aaT m];exact acn m);have:=hf g hm;omega
structure aaY (p:aj) (f:fZ) (c:zu):Prop where
 chan:bg c.chan p.chans.length
 reg:(c.send=true\/c.reg ≠ -1)->iT f c.reg
 cap:c.send=true->p.chans.getD c.chan.toNat 0≠0
 to:bg c.to f.code.length
structure aaJ (p:aj) (f:fZ) (s:uF):Prop where
 len:1<=s.cases.length/\s.cases.length<=4
 case:∀ c∈s.cases,aaY p f c
 els:s.els ≠ -1->bg s.els f.code.length
structure wZ (p:aj) (f:fZ):Prop where
 regs:0<=f.regs/\f.regs<=8
 pars:0<=f.params/\f.params<=f.regs
 code:1<=f.code.length/\f.code.length<=64
 sels:f.sels.length<=4
 ins:∀ x∈f.code,Dt p f x
 sel:∀ s∈f.sels,aaJ p f s
 last:uK (yD f)=true
structure qH (p:aj):Prop where
 vars:p.vars.length<=8
 locks:0<=p.locks/\p.locks<=4
 chans:p.chans.length<=4
 caps:∀ n∈p.chans,0<=n/\n<=4
 funcs:1<=p.funcs.length/\p.funcs.length<=8
 fn:∀ f∈p.funcs,wZ p f
 main:(aY p 0).params=0
theorem aaE {p:aj} {f:fZ} {c:zu} (h:oW p f c=0):aaY p f c:=by
 unfold oW at h;split at h
 ·cases h
 rename_i a;split at h;{cases h};rename_i b;split at h;{cases h};rename_i d;refine ⟨rD (by simpa using a),λg=>?_,λi=>?_,Ko h⟩;{refine Fh (Decidable.byContradiction λhn=>b ⟨?_,hn⟩);rw [adM,bne_iff_ne];exact g};intro e;exact d (by rw [i,e];rfl)
theorem abk {p:aj} {f:fZ} {s:uF} (hb:EX s=true) (h:DC p f s=0):aaJ p f s:=by
 unfold DC at h;split at h
 ·rename_i a;exact absurd h a
 rename_i b;refine ⟨by simp [EX]at hb;omega,λc hc=>aaE (wR (by simpa using b) c hc),λa=>?_⟩;unfold zk at h;rw [aaW a]at h;exact Ko h
theorem kC {p:aj} (h:eG p=true):qH p:=by
 have o:(pG p).1=0:=by simpa [eG]using h
 unfold pG at o;split at o
 ·rename_i u;exact absurd o u
 rename_i hw;have hw:kT p=0:=by simpa using hw
 unfold kT at hw;split at hw
 ·cases hw
 rename_i r;have hsz:p.vars.length<=8/\(0<=p.locks/\p.locks<=4)/\p.chans.length<=4/\(1<=p.funcs.length/\p.funcs.length<=8):=by simp [szB]at r;omega
 have t:=zX o;have a:∀ j,j<p.funcs.length->fV (aY p j) (j==0)=true/\rH p (aY p j)=0/\AU (jo p (aY p j)) (aY p j).code=0/\uK (yD (aY p j))=true:=λj b=>by have:=t j (by omega) (by omega);unfold uo at this;split at this;{cases this};rename_i q;split at this;{rename_i i;exact absurd this i};rename_i i;split at this;{rename_i l;exact absurd this l};rename_i l;split at this;{rename_i w;exact ⟨by simpa using q,by simpa using i,by simpa using l,w⟩};cases this
 have c:∀ j,j<p.funcs.length->Qd (aY p j) (j==0)=true/\tV (aY p j) (aY p j).sels.length=true:=λj b=>by have:=(a j b).1;simpa [fV]using this
 have d:∀ f∈p.funcs,∃ j,j<p.funcs.length/\f=aY p j:=λf hf=>by obtain ⟨j,b,e⟩:=ad6 hf;exact ⟨j,b,by simp [aY,b,e]⟩
 have m:∀ g∈p.funcs,0<=g.params:=λg hg=>by obtain ⟨j,b,rfl⟩:=d g hg;have:=qZ.1 (c j b).1;omega
 refine ⟨hsz.1,hsz.2.1,hsz.2.2.1,λn hn=>?_,hsz.2.2.2,λf hf=>?_,?_⟩
 ·have:=wR hw n hn;unfold EM at this;split at this;{cases this};rename_i q;simp at q;omega
 ·obtain ⟨j,b,rfl⟩:=d f hf;have q:=qZ.1 (c j b).1;have i:=a j b;refine ⟨by omega,by omega,by omega,by omega,λx hx=>abJ m (wR i.2.2.1 x hx),λs r=>?_,i.2.2.2⟩;obtain ⟨k,hk,e⟩:=ad6 r;have l:=BF (c j b).2 k hk;(have v:(aY p j).sels.getD k xw=s:=by rw [aaV,aaT hk,e];rfl);rw [v]at l;exact abk l (wR i.2.1 s r)
 have:=qZ.1 (c 0 (by omega)).1;have y:¬ ((0==0)=true/\(aY p 0).params>0):=this.2.2.2.2.1;have z:¬ (aY p 0).params>0:=λh=>y ⟨rfl,h⟩;omega
def mJ (w o:Int):Bool:=decide ((w=1/\o=44)\/(w=2/\(o=19\/o=20))\/(w=3/\25<=o/\o<=27)\/(w=4/\(o=58\/o=61))\/(w=5/\o=60)\/(w=6/\o=56)\/(w=7/\o=63)\/(w=8/\o=62))
theorem abG (w o:Int):AC Tryz.prog T aI 237 [.int w,.int o] [] (.bool (mJ w o)) []:=by
 refine aX Tryz.func237 ?_;refine sg rfl (sq (sq (rg [] rfl ?_)));refine bk (sq (rg [] rfl ?_));refine cd rfl (λe=>?_) (λe=>?_)
 ·refine sg rfl (rX ?_);refine fin1 hT (by rfl) ?_;(try simp only [fE,band]);rw [acC];simp [mJ]at *;omega
 refine sg rfl (cd rfl (λf=>?_) (λf=>?_));{refine sg rfl (rX ?_);refine fin1 hT (by rfl) ?_;(try simp only [fE,band]);rw [acC];simp [mJ]at *;omega};refine sg rfl (cd rfl (λg=>?_) (λg=>?_));{refine sg rfl (rX ?_);refine fin1 hT (by rfl) ?_;(try simp only [fE,band]);rw [acC];simp [mJ]at *;omega};refine sg rfl (cd rfl (λh=>?_) (λh=>?_));{refine sg rfl (rX ?_);refine fin1 hT (by rfl) ?_;(try simp only [fE,band]);rw [acC];simp [mJ]at *;omega};refine sg rfl (cd rfl (λa=>?_) (λa=>?_));{refine sg rfl (rX ?_);refine fin1 hT (by rfl) ?_;(try simp only [fE,band]);rw [acC];simp [mJ]at *;omega};refine sg rfl (cd rfl (λb=>?_) (λb=>?_));{refine sg rfl (rX ?_);refine fin1 hT (by rfl) ?_;(try simp only [fE,band]);rw [acC];simp [mJ]at *;omega};refine sg rfl (cd rfl (λc=>?_) (λc=>?_));{refine sg rfl (rX ?_);refine fin1 hT (by rfl) ?_;(try simp only [fE,band]);rw [acC];simp [mJ]at *;omega};refine sg rfl (cd rfl (λd=>?_) (λd=>?_));{refine sg rfl (rX ?_);refine fin1 hT (by rfl) ?_;(try simp only [fE,band]);rw [acC];simp [mJ]at *;omega};refine sk (sq (rg [] rfl ?_));refine rX ?_;refine fin1 hT (by rfl) ?_;(try simp only [fE,band]);rw [acC];simp [mJ]at *;omega
theorem Rh (w o:Int):AC Tryz.prog T aI 200 [.int o,.int w] [] (.bool (mJ w o)) []:=by
 refine aX Tryz.func200 ?_;refine sg rfl (sq (sq (rg [] rfl ?_)));refine bk (sq (rg [] rfl ?_));refine cd rfl (λe=>?_) (λe=>?_)
 ·refine sg rfl (rX ?_);refine fin1 hT (by rfl) ?_;(try simp only [fE,band]);rw [acC];simp [mJ]at *;omega
 refine sg rfl (cd rfl (λf=>?_) (λf=>?_));{refine sg rfl (rX ?_);refine fin1 hT (by rfl) ?_;(try simp only [fE,band]);rw [acC];simp [mJ]at *;omega};refine sg rfl (cd rfl (λg=>?_) (λg=>?_));{refine sg rfl (rX ?_);refine fin1 hT (by rfl) ?_;(try simp only [fE,band]);rw [acC];simp [mJ]at *;omega};refine sg rfl (cd rfl (λh=>?_) (λh=>?_));{refine sg rfl (rX ?_);refine fin1 hT (by rfl) ?_;(try simp only [fE,band]);rw [acC];simp [mJ]at *;omega};refine sg rfl (cd rfl (λa=>?_) (λa=>?_));{refine sg rfl (rX ?_);refine fin1 hT (by rfl) ?_;(try simp only [fE,band]);rw [acC];simp [mJ]at *;omega};refine sg rfl (cd rfl (λb=>?_) (λb=>?_));{refine sg rfl (rX ?_);refine fin1 hT (by rfl) ?_;(try simp only [fE,band]);rw [acC];simp [mJ]at *;omega};refine sg rfl (cd rfl (λc=>?_) (λc=>?_));{refine sg rfl (rX ?_);refine fin1 hT (by rfl) ?_;(try simp only [fE,band]);rw [acC];simp [mJ]at *;omega};refine sg rfl (cd rfl (λd=>?_) (λd=>?_));{refine sg rfl (rX ?_);refine fin1 hT (by rfl) ?_;(try simp only [fE,band]);rw [acC];simp [mJ]at *;omega};refine sk (sq (rg [] rfl ?_));refine rX ?_;refine fin1 hT (by rfl) ?_;(try simp only [fE,band]);rw [acC];simp [mJ]at *;omega
theorem Jq (op:Int):AC Tryz.prog T aI 204 [.int op] [] (.bool (nP op)) []:=by
 refine aX Tryz.func204 ?_;refine sg rfl (sg rfl ?_);refine rX ?_;exact fin1 hT (by rfl) (by rw [band,band,fE];rfl)
theorem NY (op:Int):AC Tryz.prog T aI 235 [.int op] [] (.bool (yF op)) []:=by
 refine aX Tryz.func235 ?_;refine sg rfl (sg rfl ?_);refine rX ?_;exact fin1 hT (by rfl) (by rw [band];rfl)
theorem Dx (p:aj):AC Tryz.prog T aI 141 [ak p] [] (.bool (eG p)) []:=by
 refine aX Tryz.func141 ?_;refine sg rfl (sq (rgs [CG.pure (zl p)] rfl ?_ ?_))
 ·have a:=DR p;exact au
 exact sg rfl (WP.ret (fin1 hT rfl rfl))
abbrev bP (p:aj) (g:iP):fZ:=p.funcs.getD g.func.toNat lI
abbrev insOf (p:aj) (g:iP):iG:=(bP p g).code.getD g.pc.toNat nR
def oU (p:aj) (g:iP):Prop:=(1<=g.status/\g.status<=5)/\bg g.func p.funcs.length/\bg g.pc (bP p g).code.length /\
 (∀ k:Nat,k<8->g.regs.getD k 0=0\/((k:Int)<(bP p g).regs/\g.status≠3/\g.status≠4)) /\
 (g.status=4->mJ g.why (insOf p g).op=true)/\(g.status≠4->g.why=0)/\(g.status=3->(insOf p g).op=45)/\(g.status=5->nP (insOf p g).op=true)
instance (n:Int) (m:Nat):Decidable (bg n m):=by unfold bg;infer_instance
instance (p:aj) (g:iP):Decidable (oU p g):=by unfold oU;infer_instance
theorem aar (p:aj) (g:iP):AC Tryz.prog T aI 189 [ak p,bW g] [] (.bool (decide (oU p g))) []:=by
 refine aX Tryz.func189 ?_;refine sg rfl (sq (sq ?_));refine WP.ent (st':=aN [(2,.rp 26 (ak p)),(3,.rp 59 (bW g))] []) (em [(.s 2 0,1),(.s 3 0,1)] ⟨sF,sF,tt⟩ ⟨rq,rq,tt⟩ trivial) ?_;refine rg [] rfl (cd rfl (λn=>?_) (λn=>?_))
 ·simp only [fE]at n;refine sg rfl (rX ?_);refine fin1 hT (by rfl) (aeu (acU λh=>?_));have w:=h.1;have d:=h.2.1;unfold bg at d;simp [-List.getD_eq_getElem?_getD]at n;omega
 simp only [fE]at n;(have v:(1<=g.status/\g.status<=5)/\bg g.func p.funcs.length:=by unfold bg;simp [-List.getD_eq_getElem?_getD]at n;omega);refine sk (sq (rgs [] rfl ?_ ?_));{have:=v.2;unfold bg at this;simp [-List.getD_eq_getElem?_getD,ay,under];omega};refine sq (sq ?_);refine WP.ent (st':=aN [(5,.rp 100 (jA (bP p g))),(2,.rp 26 (ak p)),(3,.rp 59 (bW g))] []) (em [(.s 5 0,1)] ⟨sF,tt⟩ ⟨rq,cq,cq,tt⟩ trivial) ?_;refine rg [] rfl (cd rfl (λo=>?_) (λo=>?_));{simp only [fE]at o;refine sg rfl (rX ?_);refine fin1 hT (by rfl) (aeu (acU λh=>?_));have d:=h.2.2.1;unfold bg at d;simp [-List.getD_eq_getElem?_getD]at o;omega};simp only [fE]at o;(have hp:bg g.pc (bP p g).code.length:=by unfold bg;simp [-List.getD_eq_getElem?_getD]at o;omega);refine sk (sq (rg [] rfl ?_));refine sq (sq (rg [] rfl ?_));refine bk (WP.loop (α:=Nat) (λi=>aN [(3,.rp 59 (bW g)),(5,.rp 100 (jA (bP p g))),(6,.bool (g.status==3||g.status==4)),(57,kY 52 8 .i64 g.regs),(58,.int i)] []) (λi=>i<=8 /\ ∀ k:Nat,k<i->g.regs.getD k 0=0\/((k:Int)<(bP p g).regs/\g.status≠3/\g.status≠4)) (λi=>8 - i) ?_ ?_);{refine ⟨0,?_,?_⟩;{exact ⟨abO _,λj x=>by omega⟩};refine eX ⟨cq,cq,⟨rfl,_,rfl,ah (by rw [fE])⟩,cq,cq,tt⟩ trivial};rintro i ⟨hi,hn⟩;refine sg rfl (sq ?_);refine cd rfl (λu=>?_) (λu=>?_);{(have c:i<8:=by simp [-List.getD_eq_getElem?_getD]at u;omega);refine sk (sq (bk (sq (rgs [] rfl ?_ ?_))));{simp [-List.getD_eq_getElem?_getD,ay,under];omega};refine sg rfl (cd rfl (λa=>?_) (λa=>?_));{simp only [fE,band]at a;refine sg rfl (rX ?_);refine fin1 hT (by rfl) (aeu (acU λh=>?_));have d:=h.2.2.2.1 i c;simp [-List.getD_eq_getElem?_getD]at a;rcases d with d | d;{exact a.1 (by simpa using d)};have:=a.2;grind};simp only [fE,band]at a;refine sk (rg [] rfl ?_);refine ⟨i+1,?_,?_,?_⟩;{exact ⟨c,all_succ hn (by simp [-List.getD_eq_getElem?_getD]at a;by_cases e:g.regs.getD i 0=0;exact .inl e;exact .inr (by have:=a (by simpa using e);grind))⟩};{refine eX cX trivial};(try simp only []);first | omega | grind};(have c:i=8:=by simp [-List.getD_eq_getElem?_getD]at u;omega);subst c;(have fin:∀ b:Bool,(b=true↔(g.status=4->mJ g.why (insOf p g).op=true)/\(g.status≠4->g.why=0)/\(g.status=3->(insOf p g).op=45)/\(g.status=5->nP (insOf p g).op=true))->b=decide (oU p g):=λb hb=>by rw [acC,hb,decide_eq_true_iff];exact ⟨λh=>⟨v.1,v.2,hp,hn,h⟩,λh=>h.2.2.2.2⟩);refine xt (sq (rgs [] rfl ?_ ?_));{unfold bg at hp;simp [-List.getD_eq_getElem?_getD,ay,under];omega};refine sq (sq (rg [] rfl ?_));refine bk (sq (rg [] rfl ?_));refine cd rfl (λf=>?_) (λf=>?_);{(have r:g.status=4:=by simpa using f);refine sq (rgs [CG.pure (.bool (mJ g.why (insOf p g).op))] rfl ?_ ?_);{exact abG _ _};refine rX ?_;refine fin1 hT (by rfl) (fin _ ?_);simp [r]};(have r:g.status≠4:=by simpa using f);refine sg rfl (cd rfl (λl=>?_) (λl=>?_));{(have q:g.status=3:=by simpa using l);refine sg rfl (rX ?_);refine fin1 hT (by rfl) (fin _ ?_);simp only [band];simp [q]};(have q:g.status≠3:=by simpa using l);refine sg rfl (cd rfl (λm=>?_) (λm=>?_));{(have t:g.status=5:=by simpa using m);refine sq (rgs [CG.pure (.bool (nP (insOf p g).op))] rfl ?_ ?_);{have y:=Jq (insOf p g).op;exact au};refine rX ?_;refine fin1 hT (by rfl) (fin _ ?_);simp only [band];simp [t]};(have t:g.status≠5:=by simpa using m);refine sk (sq (rg [] rfl ?_));refine rX ?_;refine fin1 hT (by rfl) (fin _ ?_);simp [r,q,t]
def qC (p:aj) (s:bM) (g c:Int):Prop:=0<=g/\g<s.count/\(goI s g).status=2/\(insOf p (goI s g)).op=58/\(insOf p (goI s g)).a=c
instance (p:aj) (s:bM) (g c:Int):Decidable (qC p s g c):=by unfold qC;infer_instance
def Yb (p:aj) (s:bM):Prop:=s.count<=6 /\ ∀ k:Nat,(k:Int)<s.count->oU p (s.gos.getD k go0)
theorem Wh (p:aj) (s:bM) (g c:Int) (hg:Yb p s):AC Tryz.prog T aI 238 [ak p,encS s,.int g,.int c] [] (.bool (decide (qC p s g c))) []:=by
 refine aX Tryz.func238 ?_;refine sg rfl (sq (sq ?_));refine WP.ent (st':=aN [(4,.rp 26 (ak p)),(5,.rp 62 (encS s)),(2,.int g),(3,.int c)] []) (em [(.s 4 0,1),(.s 5 0,1)] ⟨sF,sF,tt⟩ ⟨rq,rq,cq,cq,tt⟩ trivial) ?_;refine rgs [] rfl ?_ ?_
 ·have:=hg.1;simp [-List.getD_eq_getElem?_getD,ay,under];omega
 refine cd rfl (λd=>?_) (λd=>?_)
 ·simp only [fE]at d;refine sg rfl (rX ?_);refine fin1 hT (by rfl) (aeu (acU λh=>?_));obtain ⟨a,b,c,_⟩:=h;simp [-List.getD_eq_getElem?_getD]at d;grind
 simp only [fE]at d;(have i:0<=g/\g<s.count/\(goI s g).status=2:=by simp [-List.getD_eq_getElem?_getD]at d;grind);have hf:=hg.2 g.toNat (by omega);have j:=hg.1;refine sk (sq (drs [] rfl ?_ ?_));{have e:=hf.2.1;have f:=hf.2.2.1;simp only [bg,bP]at e f;simp [-List.getD_eq_getElem?_getD,ay,under];omega};refine sg rfl (rX ?_);refine fin1 hT (by rfl) ?_;simp only [band];rw [acC,decide_eq_true_iff];unfold qC;simp only [i,true_and];rw [abh,ade,ade]
abbrev vO (p:aj) (c:Nat):Int:=p.chans.getD c 0
abbrev bH (s:bM) (c:Nat):iO:=s.chans.getD c Bd
def uy (p:aj) (s:bM) (c:Nat):Prop:=((0<=(bH s c).len/\(bH s c).len<=vO p c)/\(0<=(bH s c).offer/\(bH s c).offer<=3)/\((bH s c).offer≠0->vO p c=0)) /\
 (∀ k:Nat,k<4->(bH s c).len<=k->(bH s c).buf.getD k 0=0)/\((bH s c).offer=0->(bH s c).frm=0/\(bH s c).val=0) /\
 ((bH s c).offer=1->(bH s c).closed=false)/\((bH s c).offer=2\/(bH s c).offer=3->(bH s c).val=0)/\((bH s c).offer=3->(bH s c).closed=true)/\((bH s c).offer≠0->qC p s (bH s c).frm c)
instance (p:aj) (s:bM) (c:Nat):Decidable (uy p s c):=by unfold uy;infer_instance
def uI (p:aj) (s:bM) (g:Int):Nat->Nat
 | 0=>0
 | c+1=>uI p s g c+if c<p.chans.length/\(bH s c).offer≠0/\(bH s c).frm=g then 1 else 0
theorem KW (p:aj) (s:bM) (g:Int):∀ c,uI p s g c<=c
 | 0=>aa4 _
 | c+1=>by have:=KW p s g c;rw [uI];split <;> omega
def xK (p:aj) (s:bM) (c:Nat):List Int:=(List.range 6).map λg=>(uI p s (g:Nat) c:Int)
theorem XG (p:aj) (s:bM) (c:Nat):(xK p s c).length=6:=by simp [xK]
theorem KX (p:aj) (s:bM) (c:Nat) {g:Nat} (h:g<6):(xK p s c).getD g 0=uI p s (g:Nat) c:=by simp [xK,h]
theorem Ju {p:aj} {s:bM} {c:Nat} (h:¬ (c<p.chans.length/\(bH s c).offer≠0)):xK p s (c+1)=xK p s c:=by
 unfold xK;refine List.map_congr_left λg hg=>?_;rw [uI,MC (λe=>h ⟨e.1,e.2.1⟩),adV]
theorem XF {p:aj} {s:bM} {c:Nat} (h:c<p.chans.length/\(bH s c).offer≠0) (hf:0<=(bH s c).frm/\(bH s c).frm<6):(xK p s c).set (bH s c).frm.toNat (uI p s (bH s c).frm c+1)=xK p s (c+1):=by
 refine List.ext_getElem (by simp [xK]) λi d b=>?_;have hi:i<6:=by simpa [xK]using b
 rw [List.getElem_set];split
 ·rename_i e;simp only [xK,aeN,aeB];(have a:((i:Nat):Int)=(bH s c).frm:=by omega);rw [a,uI,aaW ⟨h.1,h.2,rfl⟩];omega
 rename_i e;simp only [xK,aeN,aeB];rw [uI,MC (λk=>e (by rw [k.2.2];omega)),adV]
def J7 (p:aj) (s:bM) (k:Nat):Prop:=p.vars.length<=k->s.vars.getD k 0=0
def DT (p:aj) (s:bM) (k:Nat):Prop:=0<=s.owner.getD k 0/\s.owner.getD k 0<=s.count/\(s.owner.getD k 0≠0->(k:Int)<p.locks)
def CW (p:aj) (s:bM) (k:Nat):Prop:=((k:Int)<s.count->oU p (s.gos.getD k go0))/\(s.count<=k->s.gos.getD k go0=go0)
def Me (p:aj) (s:bM) (k:Nat):Prop:=(k<p.chans.length->uy p s k)/\(p.chans.length<=k->bH s k=Bd)
def FX (p:aj) (s:bM) (k:Nat):Prop:=(s.gos.getD k go0).status=2->uI p s k 4=1
instance (p:aj) (s:bM) (k:Nat):Decidable (J7 p s k):=by unfold J7;infer_instance
instance (p:aj) (s:bM) (k:Nat):Decidable (DT p s k):=by unfold DT;infer_instance
instance (p:aj) (s:bM) (k:Nat):Decidable (CW p s k):=by unfold CW;infer_instance
instance (p:aj) (s:bM) (k:Nat):Decidable (Me p s k):=by unfold Me;infer_instance
instance (p:aj) (s:bM) (k:Nat):Decidable (FX p s k):=by unfold FX;infer_instance
def dD (p:aj) (s:bM):Prop:=eG p=true/\(1<=s.count/\s.count<=6)/\(∀ k,k<8->J7 p s k)/\(∀ k,k<4->DT p s k)/\(∀ k,k<6->CW p s k)/\(∀ k,k<4->Me p s k)/\(∀ k,k<6->FX p s k)
instance (p:aj) (s:bM):Decidable (dD p s):=by unfold dD;infer_instance
theorem Rw (p:aj) (s:bM) (c:Nat) (hp:qH p) (hg:Yb p s) (hc:c<p.chans.length):AC Tryz.prog T aI 190 [ak p,encS s,.int c] [] (.bool (decide (uy p s c))) []:=by
 refine aX Tryz.func190 ?_;have x:c<4:=adt hc hp.chans;have u:0<=vO p c/\vO p c<=4:=hp.caps _ (by simp [vO,hc]);refine sg rfl (sq ?_);refine WP.ent (st':=aN [(3,.rp 26 (ak p)),(4,.rp 62 (encS s)),(2,.int c)] []) (em [(.s 3 0,1),(.s 4 0,1)] ⟨sF,sF,tt⟩ ⟨rq,rq,cq,tt⟩ trivial) ?_;refine rgs [] rfl ?_ ?_
 ·simp [-List.getD_eq_getElem?_getD,ay,under];omega
 refine sq (sq ?_);refine WP.ent (st':=aN [(7,.rp 56 (dY (bH s c))),(2,.int c),(3,.rp 26 (ak p)),(4,.rp 62 (encS s))] []) (em [(.s 7 0,1)] ⟨sF,tt⟩ ⟨rq,cq,cq,cq,tt⟩ trivial) ?_;refine drs [] rfl ?_ ?_
 ·simp [-List.getD_eq_getElem?_getD,ay,under];omega
 refine cd rfl (λf=>?_) (λf=>?_)
 ·simp only [fE,band]at f;refine sg rfl (rX ?_);refine fin1 hT (by rfl) (aeu (acU λh=>?_));have n:=h.1;simp [-List.getD_eq_getElem?_getD]at f n;grind
 ·simp only [fE,band]at f
  have w:(0<=(bH s c).len/\(bH s c).len<=vO p c)/\(0<=(bH s c).offer/\(bH s c).offer<=3)/\((bH s c).offer≠0->vO p c=0):=by simp [-List.getD_eq_getElem?_getD]at f ⊢;grind
  have hlen:0<=(bH s c).len/\(bH s c).len<=4:=by omega
  refine sk (sq (sq (rgs [] rfl ?_ ?_)))
  ·simp [-List.getD_eq_getElem?_getD,ay,under,rG,uP,capEq];omega
  refine bk (WP.loop (α:=Nat) (λi=>aN [(2,.int c),(3,.rp 26 (ak p)),(4,.rp 62 (encS s)),(7,.rp 56 (dY (bH s c))),(53,.row 2 true (4 - (bH s c).len).toNat (λj => .int ((bH s c).buf.getD ((bH s c).len.toNat+j) 0))),(54,.int (4 - (bH s c).len).toNat),(55,.int i)] []) (λi=>i<=(4 - (bH s c).len).toNat /\ ∀ k:Nat,k<i->(bH s c).buf.getD ((bH s c).len.toNat+k) 0=0) (λi=>8 - i) ?_ ?_)
  ·refine ⟨0,?_,?_⟩;{exact ⟨abO _,λj hj=>by omega⟩};refine eX cX trivial
  ·rintro i ⟨hi,hn⟩
   refine sg rfl (sq ?_)
   refine cd rfl (λo=>?_) (λo=>?_)
   ·(have m:i<(4 - (bH s c).len).toNat:=by simp [-List.getD_eq_getElem?_getD]at o;omega);refine sk (sq (bk (sq (rgs [] rfl ?_ ?_))));{simp [-List.getD_eq_getElem?_getD,ay,under];omega};refine sg rfl (cd rfl (λg=>?_) (λg=>?_));{refine sg rfl (rX ?_);refine fin1 hT (by rfl) (aeu (acU λh=>?_));have n:=h.2.1 ((bH s c).len.toNat+i) (by omega) (by omega);simp [-List.getD_eq_getElem?_getD]at g;exact g n};refine sk (rg [] rfl ?_);refine ⟨i+1,?_,?_,?_⟩;{exact ⟨m,all_succ hn (by simp [-List.getD_eq_getElem?_getD]at g;exact g)⟩};{refine eX cX trivial};(try simp only []);first | omega | grind
   ·have m:i=(4 - (bH s c).len).toNat:=by simp [-List.getD_eq_getElem?_getD]at o;omega
    have l:∀ k:Nat,k<4->(bH s c).len<=k->(bH s c).buf.getD k 0=0:=λk y z=>by have:=hn (k - (bH s c).len.toNat) (by omega);rwa [show (bH s c).len.toNat+(k - (bH s c).len.toNat)=k by omega]at this
    have fin:∀ b:Bool,(b=true↔((bH s c).offer=0->(bH s c).frm=0/\(bH s c).val=0) /\
     ((bH s c).offer=1->(bH s c).closed=false)/\((bH s c).offer=2\/(bH s c).offer=3->(bH s c).val=0)/\((bH s c).offer=3->(bH s c).closed=true)/\((bH s c).offer≠0->qC p s (bH s c).frm c))->b=decide (uy p s c):=λb hb=>by
     rw [acC,hb,decide_eq_true_iff]
     exact ⟨λh=>⟨w,l,h⟩,λh=>h.2.2⟩
    have hw:=Wh p s (bH s c).frm c hg
    refine xt (sq (sq (rg [] rfl ?_)))
    refine bk (sq (rg [] rfl ?_))
    refine cd rfl (λa=>?_) (λa=>?_)
    ·(have q:(bH s c).offer=0:=by simp [-List.getD_eq_getElem?_getD]at a;exact a);refine sg rfl (rX ?_);refine fin1 hT (by rfl) (fin _ ?_);simp only [band];simp [-List.getD_eq_getElem?_getD,q]
    (have q:(bH s c).offer≠0:=by simp [-List.getD_eq_getElem?_getD]at a;exact a)
    refine sg rfl (cd rfl (λd=>?_) (λd=>?_));{(have r:(bH s c).offer=1:=by simp [-List.getD_eq_getElem?_getD]at d;exact d);refine sq (rgs [CG.pure (.bool (decide (qC p s (bH s c).frm c)))] rfl ?_ ?_);{exact au};refine rX ?_;refine fin1 hT (by rfl) (fin _ ?_);simp only [band];simp [-List.getD_eq_getElem?_getD,r]};(have r:(bH s c).offer≠1:=by simp [-List.getD_eq_getElem?_getD]at d;exact d);refine sg rfl (cd rfl (λe=>?_) (λe=>?_));{(have t:(bH s c).offer=2:=by simp [-List.getD_eq_getElem?_getD]at e;exact e);refine sq (rgs [CG.pure (.bool (decide (qC p s (bH s c).frm c)))] rfl ?_ ?_);{exact au};refine rX ?_;refine fin1 hT (by rfl) (fin _ ?_);simp only [band];simp [-List.getD_eq_getElem?_getD,t]};(have t:(bH s c).offer≠2:=by simp [-List.getD_eq_getElem?_getD]at e;exact e);(have v:(bH s c).offer=3:=by omega);refine sk (sq (rgs [CG.pure (.bool (decide (qC p s (bH s c).frm c)))] rfl ?_ ?_));{exact au};refine rX ?_;refine fin1 hT (by rfl) (fin _ ?_);simp only [band];simp [-List.getD_eq_getElem?_getD,v];grind
theorem LD (p:aj) (g:iP) (hF:∀ f∈p.funcs,0<=f.regs):AC Tryz.prog T aI 136 [ak p,bW g] [] (.bool (decide (oU p g))) []:=by
 refine aX Tryz.func136 ?_;refine sg rfl (sq (sq ?_));refine WP.ent (st':=aN [(2,.rp 26 (ak p)),(3,.rp 59 (bW g))] []) (em [(.s 2 0,1),(.s 3 0,1)] ⟨sF,sF,tt⟩ ⟨rq,rq,tt⟩ trivial) ?_;refine drs [] rfl ?_ ?_
 ·simp [-List.getD_eq_getElem?_getD,ay,under,fE];grind
 refine cd rfl (λl=>?_) (λl=>?_)
 ·simp only [fE]at l;refine sg rfl (rX ?_);refine fin1 hT (by rfl) (aeu (acU λh=>?_));have h2:=h.1;have w:=h.2.1;have d:=h.2.2.1;simp only [bg,bP]at w d;simp [-List.getD_eq_getElem?_getD]at l;omega
 simp only [fE]at l;(have m:((1<=g.status/\g.status<=5)/\bg g.func p.funcs.length)/\bg g.pc (bP p g).code.length:=by simp only [bg,bP];simp [-List.getD_eq_getElem?_getD]at l;omega);have hb:=m.1.2;have v:=m.2;simp only [bg,bP]at hb v;have hr:0<=(bP p g).regs:=hF _ (by rw [bP,aaV,aaT (by omega)];exact acn _);refine sk (sq (rgs [] rfl ?_ ?_));{simp [-List.getD_eq_getElem?_getD,ay,under];omega};refine WP.seqJ (α:=Int) (λn=>aN [(2,.rp 26 (ak p)),(3,.rp 59 (bW g)),(5,.int n)] []) (λn=>n=if g.status=3\/g.status=4 then 0 else (bP p g).regs) ?_ ?_;{refine sg rfl (cd rfl (λd=>?_) (λd=>?_));{refine rg [] rfl ⟨0,?_,?_⟩;{rw [aaW (by simp only [fE]at d;simpa using d)]};refine eX cX trivial};refine sk ⟨(bP p g).regs,?_,?_⟩;{rw [MC (by simp only [fE]at d;simpa using d)]};refine eX cX trivial};rintro n hn;refine sq (sq ?_);(have z:0<=n:=by rw [hn];split <;> omega);(have a:∀ (x:Int) (k:Nat),(x=0\/((k:Int)<(bP p g).regs/\g.status≠3/\g.status≠4))↔(x=0\/(k:Int)<n):=λx k=>by rw [hn];split <;> omega);refine rg [] rfl (bk ?_);refine WP.loop (α:=Nat) (λi=>aN [(2,.rp 26 (ak p)),(3,.rp 59 (bW g)),(6,.int i)] []) (λi=>n<=i /\ ∀ k:Nat,k<i->k<8->(g.regs.getD k 0=0\/(k:Int)<n)) (λi=>8 - i) ?_ ?_;{refine ⟨n.toNat,?_,?_⟩;{exact ⟨by omega,λj hj _ => .inr (by omega)⟩};refine eX ⟨cq,cq,⟨rfl,_,rfl,ah (by simp [-List.getD_eq_getElem?_getD];omega)⟩,tt⟩ trivial};rintro i ⟨hi,hk⟩;refine sq (sq (rg [] rfl ?_));refine cd rfl (λt=>?_) (λt=>?_);{(have o:i<8:=by simp [-List.getD_eq_getElem?_getD]at t;omega);refine sk (sq (bk (sq (rgs [] rfl ?_ ?_))));{simp [-List.getD_eq_getElem?_getD,ay,under];omega};refine cd rfl (λq=>?_) (λq=>?_);{refine sg rfl (rX ?_);refine fin1 hT (by rfl) (aeu (acU λh=>?_));have w:=(a _ _).1 (h.2.2.2.1 i o);simp [-List.getD_eq_getElem?_getD]at q;omega};refine sk (rg [] rfl ?_);refine ⟨i+1,?_,?_,?_⟩;{refine ⟨by omega,λk y u=>?_⟩;rcases adf k i with h | h;{exact hk k h u};(obtain rfl:k=i:=by omega);simp [-List.getD_eq_getElem?_getD]at q;exact .inl q};{refine eX cX trivial};(try simp only []);first | omega | grind};(have o:8<=i:=by simp [-List.getD_eq_getElem?_getD]at t;omega);have e:∀ k:Nat,k<8->g.regs.getD k 0=0\/((k:Int)<(bP p g).regs/\g.status≠3/\g.status≠4):=λk y=>(a _ _).2 (hk k (by omega) y);(have fin:∀ b:Bool,(b=true↔(g.status=4->mJ g.why (insOf p g).op=true)/\(g.status≠4->g.why=0)/\(g.status=3->(insOf p g).op=45)/\(g.status=5->nP (insOf p g).op=true))->b=decide (oU p g):=λb hb=>by rw [acC,hb,decide_eq_true_iff];exact ⟨λh=>⟨m.1.1,m.1.2,m.2,e,h⟩,λh=>h.2.2.2.2⟩);refine xt (sq (drs [] rfl ?_ ?_));{simp [-List.getD_eq_getElem?_getD,ay,under];omega};refine sq (sq (rg [] rfl ?_));refine cd rfl (λc=>?_) (λc=>?_);{(have r:g.status=4:=by simpa using c);refine sq (rgs [CG.pure (.bool (mJ g.why (insOf p g).op))] rfl ?_ ?_);{exact Rh _ _};refine rX ?_;refine fin1 hT (by rfl) (fin _ ?_);simp [r]};(have r:g.status≠4:=by simpa using c);have hq:=DI (insOf p g).op;refine sk (sq (rgs [CG.pure (.bool (nP (insOf p g).op))] rfl ?_ ?_));{exact au};refine rX ?_;refine fin1 hT (by rfl) (fin _ ?_);simp only [band,fE];simp [r];grind
theorem NU (p:aj) (s:bM) (c:Nat) (hp:qH p) (hg:Yb p s) (hc:c<p.chans.length):AC Tryz.prog T aI 137 [ak p,encS s,.int c] [] (.bool (decide (uy p s c))) []:=by
 refine aX Tryz.func137 ?_;have a2:c<4:=adt hc hp.chans;have z:0<=vO p c/\vO p c<=4:=hp.caps _ (by simp [vO,hc]);refine sg rfl (sq ?_);refine WP.ent (st':=aN [(3,.rp 26 (ak p)),(4,.rp 62 (encS s)),(2,.int c)] []) (em [(.s 3 0,1),(.s 4 0,1)] ⟨sF,sF,tt⟩ ⟨rq,rq,cq,tt⟩ trivial) ?_;refine rgs [] rfl ?_ ?_
 ·simp [-List.getD_eq_getElem?_getD,ay,under];omega
 refine sq (sq ?_);refine WP.ent (st':=aN [(7,.rp 56 (dY (bH s c))),(2,.int c),(3,.rp 26 (ak p)),(4,.rp 62 (encS s))] []) (em [(.s 7 0,1)] ⟨sF,tt⟩ ⟨rq,cq,cq,cq,tt⟩ trivial) ?_;refine drs [] rfl ?_ ?_
 ·simp [-List.getD_eq_getElem?_getD,ay,under];omega
 refine cd rfl (λo=>?_) (λo=>?_)
 ·simp only [fE,band]at o;refine sg rfl (rX ?_);refine fin1 hT (by rfl) (aeu (acU λh=>?_));have q:=h.1;simp [-List.getD_eq_getElem?_getD]at o q;grind
 ·simp only [fE,band]at o
  have h1:(0<=(bH s c).len/\(bH s c).len<=vO p c)/\(0<=(bH s c).offer/\(bH s c).offer<=3)/\((bH s c).offer≠0->vO p c=0):=by simp [-List.getD_eq_getElem?_getD]at o ⊢;grind
  have hlen:0<=(bH s c).len/\(bH s c).len<=4:=by omega
  refine sk (sq (sq (rg [] rfl ?_)))
  refine bk (WP.loop (α:=Nat) (λi=>aN [(2,.int c),(3,.rp 26 (ak p)),(4,.rp 62 (encS s)),(7,.rp 56 (dY (bH s c))),(8,.int i)] []) (λi=>(bH s c).len<=i /\ ∀ k:Nat,k<i->k<4->(bH s c).len<=k->(bH s c).buf.getD k 0=0) (λi=>8 - i) ?_ ?_)
  ·refine ⟨(bH s c).len.toNat,?_,?_⟩;{exact ⟨by omega,λj hj _ _=>by omega⟩};refine eX ⟨cq,cq,cq,cq,⟨rfl,_,rfl,ah (by simp [-List.getD_eq_getElem?_getD];omega)⟩,tt⟩ trivial
  ·rintro i ⟨hi,hn⟩
   refine sq (sq (rg [] rfl ?_))
   refine cd rfl (λw=>?_) (λw=>?_)
   ·(have u:i<4:=by simp [-List.getD_eq_getElem?_getD]at w;omega);refine sk (sq (bk (sq (rgs [] rfl ?_ ?_))));{simp [-List.getD_eq_getElem?_getD,ay,under];omega};refine cd rfl (λr=>?_) (λr=>?_);{refine sg rfl (rX ?_);refine fin1 hT (by rfl) (aeu (acU λh=>?_));have q:=h.2.1 i u hi;simp [-List.getD_eq_getElem?_getD]at r;exact r q};refine sk (rg [] rfl ?_);refine ⟨i+1,?_,?_,?_⟩;{refine ⟨by omega,λk y l v=>?_⟩;rcases adf k i with h | h;{exact hn k h l v};(obtain rfl:k=i:=by omega);simp [-List.getD_eq_getElem?_getD]at r;exact r};{refine eX cX trivial};(try simp only []);first | omega | grind
   ·have u:4<=i:=by simp [-List.getD_eq_getElem?_getD]at w;omega
    have t:∀ k:Nat,k<4->(bH s c).len<=k->(bH s c).buf.getD k 0=0:=λk y l=>hn k (by omega) y l
    have fin:∀ b:Bool,(b=true↔((bH s c).offer=0->(bH s c).frm=0/\(bH s c).val=0) /\
     ((bH s c).offer=1->(bH s c).closed=false)/\((bH s c).offer=2\/(bH s c).offer=3->(bH s c).val=0)/\((bH s c).offer=3->(bH s c).closed=true)/\((bH s c).offer≠0->qC p s (bH s c).frm c))->b=decide (uy p s c):=λb hb=>by
     rw [acC,hb,decide_eq_true_iff]
     exact ⟨λh=>⟨h1,t,h⟩,λh=>h.2.2⟩
    refine xt (sq (sq (rg [] rfl ?_)))
    refine cd rfl (λl=>?_) (λl=>?_)
    ·(have n:(bH s c).offer=0:=by simp [-List.getD_eq_getElem?_getD]at l;exact l);refine sg rfl (rX ?_);refine fin1 hT (by rfl) (fin _ ?_);simp only [band];simp [-List.getD_eq_getElem?_getD,n]
    (have n:(bH s c).offer≠0:=by simp [-List.getD_eq_getElem?_getD]at l;exact l)
    refine sk (sq (sq (rg [] rfl ?_)))
    refine cd rfl (λf=>?_) (λf=>?_);{simp only [band,fE]at f;refine sg rfl (rX ?_);refine fin1 hT (by rfl) (fin _ ?_);simp [-List.getD_eq_getElem?_getD]at f ⊢;grind};simp only [band,fE]at f;(have m:((bH s c).offer=1->(bH s c).closed=false)/\((bH s c).offer=2\/(bH s c).offer=3->(bH s c).val=0)/\((bH s c).offer=3->(bH s c).closed=true):=by simp [-List.getD_eq_getElem?_getD]at f;grind);have h6:=hg.1;refine sk (sq (sq (rgs [] rfl ?_ ?_)));{simp [-List.getD_eq_getElem?_getD,ay,under];omega};refine cd rfl (λg=>?_) (λg=>?_);{simp only [fE]at g;refine sg rfl (rX ?_);refine fin1 hT (by rfl) (fin _ ?_);(have:¬ qC p s (bH s c).frm c:=by intro h;obtain ⟨a,b,d,_⟩:=h;simp [-List.getD_eq_getElem?_getD]at g;grind);simp [-List.getD_eq_getElem?_getD,n,this]};simp only [fE]at g;(have x:0<=(bH s c).frm/\(bH s c).frm<s.count/\(goI s (bH s c).frm).status=2:=by simp [-List.getD_eq_getElem?_getD]at g;grind);have hf:=hg.2 (bH s c).frm.toNat (by omega);refine sk (sq (drs [] rfl ?_ ?_));{have q:=hf.2.1;have h4:=hf.2.2.1;simp only [bg,bP]at q h4;simp [-List.getD_eq_getElem?_getD,ay,under];omega};refine sg rfl (rX ?_);refine fin1 hT (by rfl) (fin _ ?_);simp only [band];rw [abh,ade,ade];constructor;{exact λh=>⟨λe=>absurd e n,m.1,m.2.1,m.2.2,λ_=>⟨x.1,x.2.1,x.2.2,h⟩⟩};exact λh=>(h.2.2.2.2 n).2.2.2
theorem gW {s:bM} (h:mZ s) (k:Nat):Az (s.gos.getD k go0):=by
 rw [aaV];cases hk:s.gos[k]? with| none=>rfl| some g=>exact h.go g (acX hk)
theorem kD {s:bM} (h:mZ s) (k:Nat):DX (s.chans.getD k Bd):=by
 rw [aaV];cases hk:s.chans[k]? with| none=>rfl| some g=>exact h.ch g (acX hk)
theorem Tf {g:iP} (h:Az g):(g.status==0&&(g.func==0&&(g.pc==0&&(g.why==0&&(true&&g.regs.getD 0 0==0&&g.regs.getD 1 0==0&&g.regs.getD 2 0==0&&g.regs.getD 3 0==0&&g.regs.getD 4 0==0&&g.regs.getD 5 0==0&&g.regs.getD 6 0==0&&g.regs.getD 7 0==0&&true)))))=decide (g=go0):=by
 obtain ⟨a,b,c,d,l⟩:=g;match l,h with| [x0,x1,x2,x3,x4,x5,x6,x7],_=>rw [acC];simp [go0];grind
theorem TR {c:iO} (h:DX c):(true&&c.buf.getD 0 0==0&&c.buf.getD 1 0==0&&c.buf.getD 2 0==0&&c.buf.getD 3 0==0&&(c.len==0&&(c.closed==false&&(c.offer==0&&(c.frm==0&&(c.val==0&&true))))))=decide (c=Bd):=by
 obtain ⟨l,a,b,c,d,e⟩:=c;match l,h with| [x0,x1,x2,x3],_=>rw [acC];simp [Bd];grind
theorem acu (p:aj) (s:bM):(AV.agg 279 6 λ_=>AV.int 0)=kY 279 6 .i64 (xK p s 0):=bY λi=>by match i with | 0 | 1 | 2 | 3 | 4 | 5=>rfl | i+6=>rfl
theorem MS (p:aj) (s:bM) (ho:mZ s):AC Tryz.prog T aI 129 [ak p,encS s] [] (.bool (decide (dD p s))) []:=by
 refine aX Tryz.func129 ?_;refine sg rfl (sq (sq ?_));refine WP.ent (st':=aN [(2,.rp 26 (ak p)),(3,.rp 62 (encS s))] []) (em [(.s 2 0,1),(.s 3 0,1)] ⟨sF,sF,tt⟩ ⟨rq,rq,tt⟩ trivial) ?_;refine rgs [CG.pure (.bool (eG p))] rfl ?_ ?_
 ·have hq:=Dx p;exact au
 refine cd rfl (λh1=>?_) (λh1=>?_)
 ·simp only [fE]at h1;refine sg rfl (rX ?_);refine fin1 hT (by rfl) (aeu (acU λh=>?_));have h2:=h.1;have l:=h.2.1;simp [-List.getD_eq_getElem?_getD,h2]at h1;omega
 simp only [fE]at h1;(have hr:eG p=true/\(1<=s.count/\s.count<=6):=by simp [-List.getD_eq_getElem?_getD]at h1;cases hz:eG p <;> simp [hz]at h1 ⊢ <;> omega);have hp:=kC hr.1;have b7:p.locks<=4:=hp.locks.2;refine sk (sq (sq (rg [] rfl ?_)));refine bk (WP.loop (α:=Nat) (λi=>aN [(2,.rp 26 (ak p)),(3,.rp 62 (encS s)),(30,kY 52 8 .i64 s.vars),(31,.int i)] []) (λi=>i<=8 /\ ∀ k,k<i->J7 p s k) (λi=>8 - i) ?_ ?_);{refine ⟨0,?_,?_⟩;{exact ⟨abO _,λj hj=>by omega⟩};refine eX cX trivial};rintro i ⟨hi,hn⟩;refine sg rfl (sq ?_);refine cd rfl (λh4=>?_) (λh4=>?_);{(have a:i<8:=by simp [-List.getD_eq_getElem?_getD]at h4;omega);refine sk (sq (bk (sq (rgs [] rfl ?_ ?_))));{simp [-List.getD_eq_getElem?_getD,ay,under];omega};refine sg rfl (cd rfl (λh6=>?_) (λh6=>?_));{simp only [band]at h6;refine sg rfl (rX ?_);refine fin1 hT (by rfl) (aeu (acU λh=>?_));have l:=h.2.2.1 i a;unfold J7 at l;simp [-List.getD_eq_getElem?_getD]at h6;exact h6.2 (l (by omega))};simp only [band]at h6;refine sk (rg [] rfl ?_);refine ⟨i+1,?_,?_,?_⟩;{exact ⟨a,all_succ hn (λh=>by simp [-List.getD_eq_getElem?_getD]at h6;exact h6 (by omega))⟩};{refine eX cX trivial};(try simp only []);first | omega | grind};(have a:i=8:=by simp [-List.getD_eq_getElem?_getD]at h4;omega);subst a;refine xt (sq (sq (rg [] rfl ?_)));refine bk (WP.loop (α:=Nat) (λj=>aN [(2,.rp 26 (ak p)),(3,.rp 62 (encS s)),(46,kY 53 4 .i64 s.owner),(47,.int j)] []) (λj=>j<=4 /\ ∀ k,k<j->DT p s k) (λj=>4 - j) ?_ ?_);{refine ⟨0,?_,?_⟩;{exact ⟨abO _,λj hj=>by omega⟩};refine eX cX trivial};rintro j ⟨hj,a8⟩;refine sg rfl (sq ?_);refine cd rfl (λv=>?_) (λv=>?_);{(have q:j<4:=by simp [-List.getD_eq_getElem?_getD]at v;omega);refine sk (sq (bk (sq (rgs [] rfl ?_ ?_))));{simp [-List.getD_eq_getElem?_getD,ay,under];omega};refine sg rfl (cd rfl (λm=>?_) (λm=>?_));{simp only [band,fE]at m;refine sg rfl (rX ?_);refine fin1 hT (by rfl) (aeu (acU λh=>?_));have l:=h.2.2.2.1 j q;unfold DT at l;simp [-List.getD_eq_getElem?_getD]at m;grind};simp only [band,fE]at m;refine sk (rg [] rfl ?_);refine ⟨j+1,?_,?_,?_⟩;{exact ⟨q,all_succ a8 (by unfold DT;simp [-List.getD_eq_getElem?_getD]at m;grind)⟩};{refine eX cX trivial};(try simp only []);first | omega | grind};(have q:j=4:=by simp [-List.getD_eq_getElem?_getD]at v;omega);subst q;refine xt (sq (sq (rg [] rfl ?_)));refine bk (WP.loop (α:=Nat) (λk=>aN [(2,.rp 26 (ak p)),(3,.rp 62 (encS s)),(71,zq 60 6 bW go0 s.gos),(72,.int k)] []) (λk=>k<=6 /\ ∀ j,j<k->CW p s j) (λk=>6 - k) ?_ ?_);{refine ⟨0,?_,?_⟩;{exact ⟨abO _,λj hj=>by omega⟩};refine eX cX trivial};rintro k ⟨hk,a3⟩;refine sg rfl (sq ?_);refine cd rfl (λw=>?_) (λw=>?_);{(have r:k<6:=by simp [-List.getD_eq_getElem?_getD]at w;omega);refine sk (sq (bk (sq (rgs [] rfl ?_ ?_))));{simp [-List.getD_eq_getElem?_getD,ay,under];omega};refine sq (rgs [CG.pure (.bool (decide (oU p (s.gos.getD k go0))))] rfl ?_ ?_);{have hq:=aar p (s.gos.getD k go0);exact au};refine cd rfl (λd=>?_) (λd=>?_);{simp only [band,fE,ac9]at d;rw [Tf (gW ho k)]at d;refine sg rfl (rX ?_);refine fin1 hT (by rfl) (aeu (acU λh=>?_));have l:=h.2.2.2.2.1 k r;unfold CW at l;simp [-List.getD_eq_getElem?_getD]at d;grind};simp only [band,fE,ac9]at d;rw [Tf (gW ho k)]at d;refine sk (rg [] rfl ?_);refine ⟨k+1,?_,?_,?_⟩;{exact ⟨r,all_succ a3 (by unfold CW;simp [-List.getD_eq_getElem?_getD]at d;grind)⟩};{refine eX cX trivial};(try simp only []);first | omega | grind};(have r:k=6:=by simp [-List.getD_eq_getElem?_getD]at w;omega);subst r;have b3:Yb p s:=⟨hr.2.2,λk hk=>(a3 k (by omega)).1 hk⟩;refine xt (sq (rg [] rfl ?_));refine sq (sq (rg [] rfl ?_));refine bk (WP.loop (α:=Nat) (λc=>aN [(2,.rp 26 (ak p)),(3,.rp 62 (encS s)),(11,.ptr (.s 11 0) 1 0 []),(100,zq 57 4 dY Bd s.chans),(101,.int c)] [(.s 11 0,.cells ⟨279,1,λ_=>kY 279 6 .i64 (xK p s c),0⟩)]) (λc=>c<=4 /\ ∀ j,j<c->Me p s j) (λc=>4 - c) ?_ ?_);{refine ⟨0,?_,?_⟩;{exact ⟨abO _,λj hj=>by omega⟩};refine eX cX ⟨obs rfl (hg:=q0 (ah (acu p s))),tt⟩};rintro c ⟨hc,t⟩;refine sg rfl (sq ?_);refine cd rfl (λx=>?_) (λx=>?_);{(have f:c<4:=by simp [-List.getD_eq_getElem?_getD]at x;omega);refine sk (sq (bk (sq (rgs [] rfl ?_ ?_))));{simp [-List.getD_eq_getElem?_getD,ay,under];omega};refine sq (sq (rg [] rfl ?_));refine cd rfl (λy=>?_) (λy=>?_);{(have o:p.chans.length<=c:=by simp [-List.getD_eq_getElem?_getD]at y;omega);refine sq (sq (rg [] rfl ?_));refine cd rfl (λb=>?_) (λb=>?_);{simp only [ac9]at b;rw [TR (kD ho c)]at b;refine sg rfl (rX ?_);refine fin1 hT (by rfl) (aeu (acU λh=>?_));have l:=h.2.2.2.2.2.1 c f;unfold Me at l;simp [-List.getD_eq_getElem?_getD]at b;exact b (l.2 o)};simp only [ac9]at b;rw [TR (kD ho c)]at b;refine sk (xt (rg [] rfl ?_));refine ⟨c+1,?_,?_,?_⟩;{exact ⟨f,all_succ t ⟨λh=>by omega,λ_=>by simp [-List.getD_eq_getElem?_getD]at b;exact b⟩⟩};{refine eX cX ⟨obs rfl (hg:=q0 (ah (by rw [Ju (by omega)]))),tt⟩};(try simp only []);first | omega | grind};(have o:c<p.chans.length:=by simp [-List.getD_eq_getElem?_getD]at y;omega);refine sk (sq (sq (rgs [CG.pure (.bool (decide (uy p s c)))] rfl ?_ ?_)));{have hq:=Rw p s c hp b3 o;exact au};refine cd rfl (λz=>?_) (λz=>?_);{refine sg rfl (rX ?_);refine fin1 hT (by rfl) (aeu (acU λh=>?_));have l:=(h.2.2.2.2.2.1 c f).1 o;simp [l]at z};(have a2:uy p s c:=by simpa using z);refine sk (sq (rg [] rfl ?_));refine cd rfl (λn=>?_) (λn=>?_);{(have a9:(bH s c).offer≠0:=by simp [-List.getD_eq_getElem?_getD]at n;exact n);have a5:=a2.2.2.2.2.2.2 a9;have u:0<=(bH s c).frm/\(bH s c).frm<6:=⟨a5.1,by have:=a5.2.1;omega⟩;refine rgs [] rfl ?_ ?_;{simp [-List.getD_eq_getElem?_getD,ay,under];omega};refine rg [] rfl ?_;have hl:=KW p s (bH s c).frm c;have h0:=KX p s c (g:=(bH s c).frm.toNat) (by omega);rw [aey u.1]at h0;(have hE:(kY 279 6 .i64 (xK p s c)).put [(bH s c).frm.toNat] (.int (IntKind.i64.wrap ((xK p s c).getD (bH s c).frm.toNat 0+1)))=kY 279 6 .i64 (xK p s (c+1)):=by refine (zo (by rw [XG];omega)).trans (acY (kY _ _ _) (Eq.trans ?_ (XF ⟨o,a9⟩ u)));rw [h0,bK (by omega) (by omega)]);refine ⟨c+1,?_,?_,?_⟩;{exact ⟨f,all_succ t ⟨λ_=>a2,λh=>by omega⟩⟩};{refine eX cX ⟨obs rfl (hg:=q0 (ah hE)),tt⟩};(try simp only []);first | omega | grind};refine sk (rg [] rfl ?_);refine ⟨c+1,?_,?_,?_⟩;{exact ⟨f,all_succ t ⟨λ_=>a2,λh=>by omega⟩⟩};{refine eX cX ⟨obs rfl (hg:=q0 (ah (by rw [Ju (λh=>by simp [-List.getD_eq_getElem?_getD]at n;exact h.2 n)]))),tt⟩};(try simp only []);first | omega | grind};(have f:c=4:=by simp [-List.getD_eq_getElem?_getD]at x;omega);subst f;refine xt (sq (sq (rg [] rfl ?_)));refine bk (WP.loop (α:=Nat) (λi=>aN [(3,.rp 62 (encS s)),(11,.ptr (.s 11 0) 1 0 []),(129,zq 60 6 bW go0 s.gos),(130,.int i)] [(.s 11 0,.cells ⟨279,1,λ_=>kY 279 6 .i64 (xK p s 4),0⟩)]) (λi=>i<=6 /\ ∀ j,j<i->FX p s j) (λi=>6 - i) ?_ ?_);{refine ⟨0,?_,?_⟩;{exact ⟨abO _,λj hj=>by omega⟩};refine eX cX ⟨obs rfl,tt⟩};rintro i ⟨hi,a7⟩;refine sg rfl (sq ?_);refine cd rfl (λa0=>?_) (λa0=>?_);{(have a:i<6:=by simp [-List.getD_eq_getElem?_getD]at a0;omega);refine sk (sq (bk (sq (rgs [] rfl ?_ ?_))));{simp [-List.getD_eq_getElem?_getD,ay,under];omega};refine sq (rgs [] rfl ?_ ?_);{simp [-List.getD_eq_getElem?_getD,ay,under];omega};refine cd rfl (λe=>?_) (λe=>?_);{simp only [band,fE,ac9]at e;rw [KX p s 4 a]at e;refine sg rfl (rX ?_);refine fin1 hT (by rfl) (aeu (acU λh=>?_));have l:=h.2.2.2.2.2.2 i a;unfold FX at l;simp [-List.getD_eq_getElem?_getD]at e;grind};simp only [band,fE,ac9]at e;rw [KX p s 4 a]at e;refine sk (rg [] rfl ?_);refine ⟨i+1,?_,?_,?_⟩;{exact ⟨a,all_succ a7 (by unfold FX;simp [-List.getD_eq_getElem?_getD]at e;grind)⟩};{refine eX cX ⟨obs rfl,tt⟩};(try simp only []);first | omega | grind};(have a:i=6:=by simp [-List.getD_eq_getElem?_getD]at a0;omega);subst a;refine xt (sq (rg [] rfl ?_));exact WP.ret (fin1 hT (by rfl) (aeu (adg ⟨hr.1,hr.2,hn,a8,a3,t,a7⟩)))
theorem Qp (p:aj):AC Tryz.prog T aI 61 [ak p] [] (zl p) []:=by
 refine aX Tryz.func61 ?_;refine sg rfl (sq (sq (rg [] rfl ?_)));refine cd rfl (λl=>?_) (λl=>?_)
 ·(have hb:szB p=true:=by simp only [fE]at l;exact l);(have hw:kT p=30:=by rw [kT,aaW hb]);exact sg rfl (WP.ret (lK (e:=30) (a:=0) (b:=0) (by rw [pG,hw,aaW (by decide)]) rfl rfl rfl rfl rfl rfl (ah rfl)))
 ·have u:szB p=false:=by simp only [fE]at l;exact l
  have a0:p.chans.length<=4/\p.funcs.length<=8:=by have h9:=u;simp [szB]at h9;omega
  refine sk (sq (sq (rg [] rfl ?_)))
  refine bk (WP.loop (α:=Nat) (λi=>aN [(1,.rp 26 (ak p)),(3,.ptr (.s 3 0) 1 0 []),(46,ints false p.chans),(47,.int p.chans.length),(48,.int i)] [(.s 3 0,.cells ⟨128,1,λ_=>yj 0 0,0⟩)]) (λi=>i<=p.chans.length /\ ∀ j,j<i->EM (p.chans.getD j 0)=0) (λi=>p.chans.length - i) ?_ ?_)
  ·refine ⟨0,?_,?_⟩;{exact ⟨abO _,λj hj=>by omega⟩};refine em [(.s 1 0,1)] ⟨⟨_,rfl,aa4 _⟩,tt⟩ ⟨⟨rfl,_,rfl,bG rfl rfl (by decide) rfl rfl rfl⟩,cq,cq,cq,cq,tt⟩ ⟨obs rfl,tt⟩
  ·rintro i ⟨hi,hn⟩
   refine sg rfl (sq ?_)
   refine cd rfl (λy=>?_) (λy=>?_)
   ·(have c:i<p.chans.length:=by simpa using y);refine sk (sq (bk (sq (rgs [] rfl ?_ ?_))));{simp [ay,under];omega};refine sg rfl (cd rfl (λw=>?_) (λw=>?_));{(have hx:EM (p.chans.getD i 0)=31:=by simp only [fE]at w;exact aaW w);(have hw:kT p=31:=by rw [kT,u,MC (by simp),xU c hn (by rw [hx];decide),hx]);exact sg rfl (WP.ret (lK (e:=31) (a:=0) (b:=0) (by rw [pG,hw,aaW (by decide)]) rfl rfl rfl rfl rfl rfl (ah rfl)))};(have hx:EM (p.chans.getD i 0)=0:=by simp only [fE]at w;exact MC (by rw [show (decide (p.chans.getD i 0<0)||decide (p.chans.getD i 0>4))=false from w];decide));refine sk (rg [] rfl ?_);refine ⟨i+1,?_,?_,?_⟩;{exact ⟨c,iV hn hx⟩};{refine eX cX ⟨obs rfl,tt⟩};(try simp only []);first | omega | grind
   ·have c:i=p.chans.length:=by simp at y;omega
    subst c
    have hw:kT p=0:=by rw [kT,u,MC (by simp),lJ hn]
    clear hn hi
    have a7:=a0.2
    refine xt (sq (sq (rg [] rfl ?_)))
    refine bk (WP.loop (α:=Nat) (λi=>aN [(1,.rp 26 (ak p)),(3,.ptr (.s 3 0) 1 0 []),(61,rowP 100 jA lI p.funcs),(62,.int p.funcs.length),(63,.int i)] [(.s 3 0,.cells ⟨128,1,λ_=>yj 0 0,0⟩)]) (λi=>i<=p.funcs.length /\ ∀ j,j<i->(uo p (aY p j) (j==0)).1=0) (λi=>p.funcs.length - i) ?_ ?_)
    ·refine ⟨0,?_,?_⟩;{exact ⟨abO _,λj hj=>by omega⟩};refine eX cX ⟨obs rfl,tt⟩
    ·rintro i ⟨hi,hn⟩
     refine sg rfl (sq ?_)
     refine cd rfl (λm=>?_) (λm=>?_)
     ·have c:i<p.funcs.length:=by simpa using m
      refine sk (sq (bk (sq (rgs [] rfl ?_ ?_))))
      ·simp [ay,under];omega
      refine sq (sq (rgs [CG.pure (.bool (fV (aY p i) (i==0)))] rfl ?_ ?_))
      ·have v:=Vo i (aY p i);refine ⟨rfl,?_⟩;exact v
      refine cd rfl (λn=>?_) (λn=>?_)
      ·(have hb:fV (aY p i) (i==0)=false:=by simpa using n);exact sg rfl (WP.ret (lK (e:=32) (a:=i) (b:=0) (rU (e:=32) hw c hn (by rw [uo,aaW hb]) (by decide)) rfl rfl rfl rfl rfl rfl (ah (bY (λq=>by match q with | 0 | 1 | q+2=>rfl)))))
      ·have hb:fV (aY p i) (i==0)=true:=by simpa using n
       have z:(aY p i).code.length<=64/\1<=(aY p i).code.length:=by(have l:Qd (aY p i) (i==0)=true:=by have h2:=hb;rw [fV,abh]at h2;exact h2.1);rw [qZ]at l;omega
       refine sk (sq (rgs [CG.pure (.int (rH p (aY p i)))] rfl ?_ ?_))
       ·have g:=NI p (aY p i) (i==0) hb;refine ⟨rfl,?_⟩;exact g
       refine sq (sq (rg [] rfl ?_))
       refine cd rfl (λo=>?_) (λo=>?_)
       ·(have g:rH p (aY p i)≠0:=by simpa using o);refine sg rfl (rX ?_);exact lK (e:=rH p (aY p i)) (a:=i) (b:=0) (rU hw c hn (by rw [uo,MC (by rw [hb];decide),aaW g]) g) rfl rfl rfl rfl rfl rfl (ah (bY (λq=>by match q with | 0 | 1 | q+2=>rfl)))
       ·have g:rH p (aY p i)=0:=by simpa using o
        refine sk (sq (sq (rg [] rfl ?_)))
        refine bk (WP.loop (α:=Nat) (λk=>aN [(1,.rp 26 (ak p)),(3,.ptr (.s 3 0) 1 0 []),(6,.int i),(7,.rp 100 (jA (aY p i))),(61,rowP 100 jA lI p.funcs),(62,.int p.funcs.length),(63,.int i),(83,rowP 120 aU nR (aY p i).code),(84,.int (aY p i).code.length),(85,.int k)] [(.s 3 0,.cells ⟨128,1,λ_=>yj 0 0,0⟩)]) (λk=>k<=(aY p i).code.length /\ ∀ j,j<k->jo p (aY p i) ((aY p i).code.getD j nR)=0) (λk=>(aY p i).code.length - k) ?_ ?_)
        ·refine ⟨0,?_,?_⟩;{exact ⟨abO _,λj hj=>by omega⟩};refine em [(.s 7 0,1)] ⟨⟨_,rfl,aa4 _⟩,tt⟩ ⟨cq,cq,cq,⟨rfl,_,rfl,bG rfl rfl (by decide) rfl rfl rfl⟩,cq,cq,cq,cq,cq,cq,tt⟩ ⟨obs rfl,tt⟩
        ·rintro k ⟨hk,hc⟩
         refine sg rfl (sq ?_)
         refine cd rfl (λr=>?_) (λr=>?_)
         ·(have f:k<(aY p i).code.length:=by simpa using r);refine sk (sq (bk (sq (rgs [] rfl ?_ ?_))));{have a4:k<(p.funcs[i]?.getD lI).code.length:=f;simp [ay,under];omega};refine sq (rgs [CG.pure (.int (jo p (aY p i) ((aY p i).code.getD k nR)))] rfl ?_ ?_);{have hx:=UE p (aY p i) ((aY p i).code.getD k nR);refine ⟨rfl,?_⟩;exact hx};refine sg rfl (cd rfl (λt=>?_) (λt=>?_));{(have hx:jo p (aY p i) ((aY p i).code.getD k nR)≠0:=by simpa using t);refine sg rfl (rX ?_);exact lK (e:=jo p (aY p i) ((aY p i).code.getD k nR)) (a:=i) (b:=k) (rU hw c hn (by rw [uo,MC (by rw [hb];decide),MC (λh=>h g),xU f hc hx,Rf f hc hx,aaW hx]) hx) rfl rfl rfl rfl rfl rfl (ah (bY (λq=>by match q with | 0 | 1 | q+2=>rfl)))};(have hx:jo p (aY p i) ((aY p i).code.getD k nR)=0:=by simpa using t);refine sk (rg [] rfl ?_);refine ⟨k+1,?_,?_,?_⟩;{exact ⟨f,iV hc hx⟩};{refine eX cX ⟨obs rfl,tt⟩};(try simp only []);first | omega | grind
         ·have f:k=(aY p i).code.length:=by simp only [acK]at r;omega
          subst f
          have ho:((aY p i).code.getD (IntKind.i64.wrap (((aY p i).code.length:Int) - 1)).toNat nR).op=yD (aY p i):=by(have x:(aY p i).code.getD (IntKind.i64.wrap (((aY p i).code.length:Int) - 1)).toNat nR=(aY p i).code.getD ((aY p i).code.length - 1) nR:=by rw [bK (by omega) (by omega)];congr 1;omega);rw [x];rfl
          refine xt (sq (rgs [] rfl ?_ ?_))
          ·have a2:(p.funcs[i]?.getD lI).code.length<=64/\1<=(p.funcs[i]?.getD lI).code.length:=z;simp [ay,under];rw [bK (by omega) (by omega)];omega
          refine sg rfl (cd rfl (λd=>?_) (λd=>?_))
          ·have he:uK (yD (aY p i))=false:=by simp only [band,abh,bne_iff_ne]at d;rw [<- ho];exact TL (by simpa using d.1.1) (by simpa using d.1.2) (by simpa using d.2)
           refine sq (dr [] rfl ?_)
           refine rX ?_
           exact lK (e:=39) (a:=i) (b:=IntKind.i64.wrap (((aY p i).code.length:Int) - 1)) (by
            rw [bK (by omega) (by omega)]
            exact rU hw c hn (by rw [uo,MC (by rw [hb];decide),MC (λh=>h g),MC (λh=>h (lJ hc)),MC (by rw [he];decide)]) (by decide)) rfl rfl rfl rfl rfl rfl (ah (bY (λq=>by match q with | 0 | 1 | q+2=>rfl)))
          (have he:uK (yD (aY p i))=true:=by rw [<- ho];have e:=d;simp only [band]at e;cases v:uK ((aY p i).code.getD (IntKind.i64.wrap (((aY p i).code.length:Int) - 1)).toNat nR).op with| true=>rfl| false=>exfalso;simp only [uK,adW]at v;simp only [bne,v.1.1,v.1.2,v.2]at e;(cases e))
          refine sk (rg [] rfl ?_)
          refine ⟨i+1,?_,?_,?_⟩;{refine ⟨c,iV hn ?_⟩;rw [uo,MC (by rw [hb];decide),MC (λh=>h g),MC (λh=>h (lJ hc)),aaW he]};{refine eX cX ⟨obs rfl,tt⟩};(try simp only []);first | omega | grind
     (have c:i=p.funcs.length:=by simp at m;omega)
     subst c
     refine xt (sq (rg [] rfl ?_))
     exact WP.ret (lK (e:=0) (a:=0) (b:=0) (PE hw hn) rfl rfl rfl rfl rfl rfl (ah rfl))
theorem BL (p:aj):AC Tryz.prog T aI 24 [ak p] [] (.bool ((pG p).1==0)) []:=by
 refine aX Tryz.func24 ?_;refine sg rfl (sq (rgs [CG.pure (zl p)] rfl ?_ ?_))
 ·have hc:=Qp p;exact ⟨⟨rfl,hc⟩,rfl,aa4 _⟩
 exact sg rfl (WP.ret (fin1 hT (by rfl) rfl))
theorem XE {p:aj} {s:bM} {g:Int} (h:∀ k,k<4->p.chans.length<=k->bH s k=Bd):∀ c,c<4->uI p s g (c+1)=uI p s g c+if (bH s c).offer≠0/\(bH s c).frm=g then 1 else 0:=λc hc=>by
 rw [uI];by_cases a:c<p.chans.length
 ·simp only [a,true_and]
 ·rw [MC (λe=>a e.1),h c hc (by omega)];rfl
theorem Uu (p:aj) (s:bM) (ho:mZ s):AC Tryz.prog T aI 91 [ak p,encS s] [] (.bool (decide (dD p s))) []:=by
 refine aX Tryz.func91 ?_;refine sg rfl (sq (sq ?_));refine WP.ent (st':=aN [(2,.rp 26 (ak p)),(3,.rp 62 (encS s))] []) (em [(.s 2 0,1),(.s 3 0,1)] ⟨sF,sF,tt⟩ ⟨rq,rq,tt⟩ trivial) ?_;refine rgs [CG.pure (.bool (eG p))] rfl ?_ ?_
 ·have hq:=BL p;exact au
 refine cd rfl (λv=>?_) (λv=>?_)
 ·simp only [fE]at v;refine sg rfl (rX ?_);refine fin1 hT (by rfl) (aeu (acU λh=>?_));have h2:=h.1;have o:=h.2.1;simp [-List.getD_eq_getElem?_getD,h2]at v;omega
 simp only [fE]at v;(have hr:eG p=true/\(1<=s.count/\s.count<=6):=by simp [-List.getD_eq_getElem?_getD]at v;cases hz:eG p <;> simp [hz]at v ⊢ <;> omega);have hp:=kC hr.1;have hF:∀ f∈p.funcs,0<=f.regs:=λf hf=>(hp.fn f hf).regs.1;have b6:p.locks<=4:=hp.locks.2;have b7:=hp.vars;refine sk (sq (sq (rg [] rfl ?_)));refine bk (WP.loop (α:=Nat) (λk=>aN [(2,.rp 26 (ak p)),(3,.rp 62 (encS s)),(25,.int k)] []) (λk=>k<=6 /\ ∀ j,j<k->CW p s j) (λk=>6 - k) ?_ ?_);{refine ⟨0,?_,?_⟩;{exact ⟨abO _,λj hj=>by omega⟩};refine eX cX trivial};rintro k ⟨hk,u⟩;refine sg rfl (sq ?_);refine cd rfl (λh4=>?_) (λh4=>?_);{(have t:k<6:=by simp [-List.getD_eq_getElem?_getD]at h4;omega);refine sk (sq (bk (sq (rg [] rfl ?_))));refine sq (drs [CG.pure (.bool (decide (oU p (s.gos.getD k go0))))] rfl ?_ ?_);{have hq:=LD p (s.gos.getD k go0) hF;exact au};refine cd rfl (λh6=>?_) (λh6=>?_);{simp only [band,fE,ac9]at h6;rw [Tf (gW ho k)]at h6;refine sg rfl (rX ?_);refine fin1 hT (by rfl) (aeu (acU λh=>?_));have o:=h.2.2.2.2.1 k t;unfold CW at o;simp [-List.getD_eq_getElem?_getD]at h6;grind};simp only [band,fE,ac9]at h6;rw [Tf (gW ho k)]at h6;refine sk (rg [] rfl ?_);refine ⟨k+1,?_,?_,?_⟩;{exact ⟨t,all_succ u (by unfold CW;simp [-List.getD_eq_getElem?_getD]at h6;grind)⟩};{refine eX cX trivial};(try simp only []);first | omega | grind};(have t:k=6:=by simp [-List.getD_eq_getElem?_getD]at h4;omega);subst t;have b1:Yb p s:=⟨hr.2.2,λk hk=>(u k (by omega)).1 hk⟩;refine xt (sq (sq (rg [] rfl ?_)));refine bk (WP.loop (α:=Nat) (λi=>aN [(2,.rp 26 (ak p)),(3,.rp 62 (encS s)),(6,.int i)] []) (λi=>p.vars.length<=i /\ ∀ k,k<i->k<8->J7 p s k) (λi=>8 - i) ?_ ?_);{refine ⟨p.vars.length,?_,?_⟩;{exact ⟨aa4 _,λk h _ h2=>by omega⟩};refine eX cX trivial};rintro i ⟨hi,hn⟩;refine sq (sq (rg [] rfl ?_));refine cd rfl (λx=>?_) (λx=>?_);{(have q:i<8:=by simp [-List.getD_eq_getElem?_getD]at x;omega);refine sk (sq (bk (sq (rgs [] rfl ?_ ?_))));{simp [-List.getD_eq_getElem?_getD,ay,under];omega};refine cd rfl (λl=>?_) (λl=>?_);{refine sg rfl (rX ?_);refine fin1 hT (by rfl) (aeu (acU λh=>?_));have o:=h.2.2.1 i q hi;simp [-List.getD_eq_getElem?_getD]at l;exact l o};refine sk (rg [] rfl ?_);refine ⟨i+1,?_,?_,?_⟩;{exact ⟨by omega,all_succ (Q:=λk=>k<8->J7 p s k) hn (λ_ _=>by simp [-List.getD_eq_getElem?_getD]at l;exact l)⟩};{refine eX cX trivial};(try simp only []);first | omega | grind};(have q:8<=i:=by simp [-List.getD_eq_getElem?_getD]at x;omega);refine xt (sq (sq (rg [] rfl ?_)));refine bk (WP.loop (α:=Nat) (λj=>aN [(2,.rp 26 (ak p)),(3,.rp 62 (encS s)),(68,.int j)] []) (λj=>j<=4 /\ ∀ k,k<j->DT p s k) (λj=>4 - j) ?_ ?_);{refine ⟨0,?_,?_⟩;{exact ⟨abO _,λj hj=>by omega⟩};refine eX cX trivial};rintro j ⟨hj,a5⟩;refine sg rfl (sq ?_);refine cd rfl (λy=>?_) (λy=>?_);{(have r:j<4:=by simp [-List.getD_eq_getElem?_getD]at y;omega);refine sk (sq (bk (sq (rg [] rfl ?_))));refine sq (drs [] rfl ?_ ?_);{simp [-List.getD_eq_getElem?_getD,ay,under];omega};refine cd rfl (λm=>?_) (λm=>?_);{simp only [band,fE]at m;refine sg rfl (rX ?_);refine fin1 hT (by rfl) (aeu (acU λh=>?_));have o:=h.2.2.2.1 j r;unfold DT at o;simp [-List.getD_eq_getElem?_getD]at m;grind};simp only [band,fE]at m;refine sk (rg [] rfl ?_);refine ⟨j+1,?_,?_,?_⟩;{exact ⟨r,all_succ a5 (by unfold DT;simp [-List.getD_eq_getElem?_getD]at m;grind)⟩};{refine eX cX trivial};(try simp only []);first | omega | grind};(have r:j=4:=by simp [-List.getD_eq_getElem?_getD]at y;omega);subst r;refine xt (sq (sq (rg [] rfl ?_)));refine bk (WP.loop (α:=Nat) (λc=>aN [(2,.rp 26 (ak p)),(3,.rp 62 (encS s)),(99,.int c)] []) (λc=>c<=4 /\ ∀ j,j<c->Me p s j) (λc=>4 - c) ?_ ?_);{refine ⟨0,?_,?_⟩;{exact ⟨abO _,λj hj=>by omega⟩};refine eX cX trivial};rintro c ⟨hc,a3⟩;refine sg rfl (sq ?_);refine cd rfl (λz=>?_) (λz=>?_);{(have a:c<4:=by simp [-List.getD_eq_getElem?_getD]at z;omega);refine sk (sq (bk (sq (rg [] rfl ?_))));refine sq (rgs [CG.pure (.bool (decide (uy p s c)))] rfl ?_ ?_);{have hq:c<p.chans.length->_:=λh=>NU p s c hp b1 h;simp only [ay,under,CG.pure];(repeat' with_reducible refine And.intro ?_ ?_);(all_goals (try with_reducible intros));all_goals (first | exact trivial | omega | (simp [-List.getD_eq_getElem?_getD];omega) | (refine hq ?_;simp_all;done) | (simp_all;done) | (rcases adf c p.chans.length with b2 | b2 <;> simp_all))};refine cd rfl (λb=>?_) (λb=>?_);{simp only [band,fE,ac9]at b;rw [TR (kD ho c)]at b;refine sg rfl (rX ?_);refine fin1 hT (by rfl) (aeu (acU λh=>?_));have o:=h.2.2.2.2.2.1 c a;unfold Me at o;simp [-List.getD_eq_getElem?_getD]at b;grind};simp only [band,fE,ac9]at b;rw [TR (kD ho c)]at b;refine sk (rg [] rfl ?_);refine ⟨c+1,?_,?_,?_⟩;{exact ⟨a,all_succ a3 (by unfold Me;simp [-List.getD_eq_getElem?_getD]at b;grind)⟩};{refine eX cX trivial};(try simp only []);first | omega | grind};(have a:c=4:=by simp [-List.getD_eq_getElem?_getD]at z;omega);subst a;have w:=λg=>XE (p:=p) (s:=s) (g:=g) (λk v h2=>(a3 k v).2 h2);refine xt (sq (sq (rg [] rfl ?_)));refine bk (WP.loop (α:=Nat) (λi=>aN [(3,.rp 62 (encS s)),(9,.int i)] []) (λi=>(i:Int)<=s.count /\ ∀ j,j<i->FX p s j) (λi=>s.count.toNat - i) ?_ ?_);{refine ⟨0,?_,?_⟩;{exact ⟨by omega,λj hj=>by omega⟩};refine eX cX trivial};rintro i ⟨b4,a4⟩;refine sq (sq (rg [] rfl ?_));refine cd rfl (λa0=>?_) (λa0=>?_);{(have q:(i:Int)<s.count:=by simp [-List.getD_eq_getElem?_getD]at a0;omega);refine sk (sq (bk (sq (rg [] rfl ?_))));refine sq (sq (rg [] rfl ?_));refine bk (WP.loop (α:=Nat) (λc=>aN [(3,.rp 62 (encS s)),(9,.int i),(10,.int (uI p s (i:Nat) c)),(136,.int c)] []) (λc=>c<=4) (λc=>4 - c) ?_ ?_);{refine ⟨0,?_,?_⟩;{exact abO _};refine eX cX trivial};rintro c hc;refine sg rfl (sq ?_);refine cd rfl (λa1=>?_) (λa1=>?_);{(have a:c<4:=by simp [-List.getD_eq_getElem?_getD]at a1;omega);refine sk (sq (bk (sq (rg [] rfl ?_))));refine sq (rgs [] rfl ?_ ?_);{simp [-List.getD_eq_getElem?_getD,ay,under];omega};refine cd rfl (λd=>?_) (λd=>?_);{simp only [band,ac9]at d;refine rg [] rfl (rg [] rfl ?_);have b5:=KW p s (i:Nat) c;refine ⟨c+1,?_,?_,?_⟩;{exact a};{refine eX ⟨cq,cq,⟨rfl,_,rfl,ah (by rw [w _ c a,aaW (by simp [-List.getD_eq_getElem?_getD]at d;exact d),bK (by omega) (by omega)];rfl)⟩,cq,tt⟩ trivial};(try simp only []);first | omega | grind};simp only [band,ac9]at d;refine sk (rg [] rfl ?_);refine ⟨c+1,?_,?_,?_⟩;{exact a};{refine eX ⟨cq,cq,⟨rfl,_,rfl,ah (by rw [w _ c a,MC (by simp [-List.getD_eq_getElem?_getD]at d;grind)];rfl)⟩,cq,tt⟩ trivial};(try simp only []);first | omega | grind};(have a:c=4:=by simp [-List.getD_eq_getElem?_getD]at a1;omega);subst a;refine xt (sq (rgs [] rfl ?_ ?_));{simp [-List.getD_eq_getElem?_getD,ay,under];omega};refine cd rfl (λn=>?_) (λn=>?_);{simp only [band,ac9]at n;refine sg rfl (rX ?_);refine fin1 hT (by rfl) (aeu (acU λh=>?_));have o:=h.2.2.2.2.2.2 i (by omega);unfold FX at o;simp [-List.getD_eq_getElem?_getD]at n;grind};simp only [band,ac9]at n;refine sk (rg [] rfl ?_);refine ⟨i+1,?_,?_,?_⟩;{exact ⟨by omega,all_succ a4 (by unfold FX;simp [-List.getD_eq_getElem?_getD]at n;grind)⟩};{refine eX cX trivial};(try simp only []);first | omega | grind};(have q:(i:Int)=s.count:=by simp [-List.getD_eq_getElem?_getD]at a0;omega);refine xt (sq (rg [] rfl ?_));refine rX ?_;refine fin1 hT (by rfl) (aeu (adg ⟨hr.1,hr.2,λk h=>hn k (by omega) h,a5,u,a3,λk hk=>?_⟩));rcases adf k i with h | h;{exact a4 k h};intro e;rw [(u k hk).2 (by omega)]at e;cases e
section
variable {P:Program} {T:Nat->TI} {N:Nat}
theorem AC.of_calls {f:FuncId} {xs:List Value} {r:Value} {a:AV} (hc:callable P f) (g:∀ (I:fG) (ρ:Pl),fQ T N I ρ a r)
 (h:∀ w:World,(∀ (b o n:Nat),(T b).glb[o]? = some n->w.cell? ⟨b,o,none⟩=some (.int .u8 n))->Calls P f xs.toArray w λe w'=>e = .returned r/\w'=w):AC P T N f (xs.map .v) [] a []:=by
 refine ⟨hc,λI ρ w vs hl j hw=>?_⟩;have e:vs=xs:=by refine List.ext_getElem (by simpa using hl) λi c d=>?_;have:=j i (.v xs[i]) vs[i] (by simp [d]) (by simp [c]);exact (this.v).1
 subst e;refine (h w (λb o n hg=>hw.imm _ _ _ (hw.gl b o n hg))).mono ?_;rintro e w' ⟨rfl,rfl⟩;exact ⟨r,I,ρ,rfl,Ev.refl _ _ _,g I ρ,hw⟩
theorem pR (hT:jf P T N) {nt k j t i:Nat} {st:St} {y:AV} {a e:Int} {B:zQ} (h:st.t k=some (.always,.ptr (.s j 0) 1 0 [])) (v:st.t i=some (.always,.int a)) (hm:st.m (.s j 0)=some (.cells B)) (u:Conv st.m (λid=>dO id []) T (B.get 0) y) (he:a=e)
 (p:fJ y=true:=by rfl) (q:fP [.s j 0] y=true:=by rfl) (g:rZ y=true:=by rfl) (d:Nat.beq i k=false:=by rfl) (o:B.ty=t:=by rfl) (hn:B.n=1:=by rfl) (b:B.fz=0:=by rfl):Fin T N nt 0 [.cell k t,.tmp i] (.tup [y,.int e]) [] st:=by
 obtain ⟨ty,n,get,fz⟩:=B;simp only at o hn b u;subst o hn b he;refine Fin.ent (uM.mk (P:=P) hT [] (ts:=[(k,.ptr (.s j 0) 1 0 []),(i,.int a)]) (ms:=[(.s j 0,.cells ⟨ty,1,λ_=>y,0⟩)]) trivial ⟨⟨by simp [fP,iy,aT],_,h,ah rfl⟩,⟨rfl,_,v,ah rfl⟩,tt⟩ ⟨⟨λ_ _=>q,.inl ⟨_,hm,_,_,rfl,aa4 _,abO _,abO _,q0 u⟩⟩,tt⟩ rfl) ?_;have r:(aN [(k,AV.ptr (.s j 0) 1 0 []),(i,.int a)] [(.s j 0,Ob.cells ⟨ty,1,λ_=>y,0⟩)]).m (.s j 0)=some (.cells ⟨ty,1,λ_=>y,0⟩):=by simp [aN,nO,aT]
 have f:Nat.beq k k=true:=by simp
 have c:Nat.beq i i=true:=by simp
 refine aG hT [(.s j 0,1)] (ts:=[(k,.rp ty y),(i,.int a)]) (l:=[y,.int a]) ⟨⟨_,r,aa4 _⟩,tt⟩ ⟨⟨rfl,.ptr (.s j 0) 1 0 [],by simp only [aN,oz,f];rfl,?_⟩,⟨rfl,_,by simp only [aN,oz,d,c];rfl,ah rfl⟩,tt⟩ trivial rfl ?_ rfl
 ·exact bG r rfl (by simp [dO,aT]) rfl (by show y.at []=y;cases y <;> rfl) p
 ·simp only [zS,aN,oz,f,c,d,adq,ado,adU,VL,AO,aZ,nX,g];have ht:Nat.beq ty ty=true:=by simp
  simp [VL,ht,show rZ (AV.int a)=true from rfl,nX,fM,g]
theorem xY (hT:jf P T N) {nt k j t f b t' i:Nat} {st:St} {y d:AV} {a e:Int} {B B':zQ} (h:st.t k=some (.always,.ptr (.s j 0) 1 0 [])) (h':st.t f=some (.always,.ptr (.s b 0) 1 0 [])) (h2:st.t i=some (.always,.int a)) (hm:st.m (.s j 0)=some (.cells B)) (a5:st.m (.s b 0)=some (.cells B'))
 (hy:Conv st.m (λid=>dO id []) T (B.get 0) y) (a3:Conv st.m (λid=>dO id []) T (B'.get 0) d) (he:a=e)
 (a6:fJ y=true:=by rfl) (a8:fP [.s j 0,.s b 0] y=true:=by rfl) (a7:rZ y=true:=by rfl) (hno':fJ d=true:=by rfl) (hok':fP [.s j 0,.s b 0] d=true:=by rfl) (a0:rZ d=true:=by rfl) (w:Nat.beq i k=false:=by rfl) (o:Nat.beq i f=false:=by rfl) (p:Nat.beq f k=false:=by rfl) (a4:Nat.beq b j=false:=by rfl)
 (a2:B.ty=t:=by rfl) (hn:B.n=1:=by rfl) (u:B.fz=0:=by rfl) (r:B'.ty=t':=by rfl) (z:B'.n=1:=by rfl) (g:B'.fz=0:=by rfl):Fin T N nt 0 [.cell k t,.cell f t',.tmp i] (.tup [y,d,.int e]) [] st:=by
 obtain ⟨ty,n,get,fz⟩:=B;obtain ⟨c,n',get',b5⟩:=B';simp only at a2 hn u hy r z g a3;subst a2 hn u he r z g;have x:Nat.beq k k=true:=by simp
 have q:Nat.beq f f=true:=by simp
 have v:Nat.beq i i=true:=by simp
 have a9:Id.beq (.s j 0) (.s j 0)=true:=aT _;have b0:Id.beq (.s b 0) (.s b 0)=true:=aT _
 have a1:Id.beq (.s b 0) (.s j 0)=false:=by simp [Id.beq,a4]
 refine Fin.ent (uM.mk (P:=P) hT [] (ts:=[(k,.ptr (.s j 0) 1 0 []),(f,.ptr (.s b 0) 1 0 []),(i,.int a)]) (ms:=[(.s j 0,.cells ⟨ty,1,λ_=>y,0⟩),(.s b 0,.cells ⟨c,1,λ_=>d,0⟩)]) trivial ⟨⟨by simp [fP,iy,aT],_,h,ah rfl⟩,⟨by simp [fP,iy,aT],_,h',ah rfl⟩,⟨rfl,_,h2,ah rfl⟩,tt⟩
  ⟨⟨λ_ _=>a8,.inl ⟨_,hm,_,_,rfl,aa4 _,abO _,abO _,q0 hy⟩⟩,⟨λ_ _=>hok',.inl ⟨_,a5,_,_,rfl,aa4 _,abO _,abO _,q0 a3⟩⟩,tt⟩ rfl) ?_
 have h1:(aN [(k,AV.ptr (.s j 0) 1 0 []),(f,.ptr (.s b 0) 1 0 []),(i,.int a)] [(.s j 0,Ob.cells ⟨ty,1,λ_=>y,0⟩),(.s b 0,Ob.cells ⟨c,1,λ_=>d,0⟩)]).m (.s j 0)=some (.cells ⟨ty,1,λ_=>y,0⟩):=by simp only [aN,nO,a9];rfl
 have h3:(aN [(k,AV.ptr (.s j 0) 1 0 []),(f,.ptr (.s b 0) 1 0 []),(i,.int a)] [(.s j 0,Ob.cells ⟨ty,1,λ_=>y,0⟩),(.s b 0,Ob.cells ⟨c,1,λ_=>d,0⟩)]).m (.s b 0)=some (.cells ⟨c,1,λ_=>d,0⟩):=by simp only [aN,nO,b0,a1];rfl
 refine aG hT [(.s j 0,1),(.s b 0,1)] (ts:=[(k,.rp ty y),(f,.rp c d),(i,.int a)]) (l:=[y,d,.int a]) ⟨⟨_,h1,aa4 _⟩,⟨_,h3,aa4 _⟩,tt⟩
  ⟨⟨rfl,.ptr (.s j 0) 1 0 [],by simp only [aN,oz,x];rfl,?_⟩,⟨rfl,.ptr (.s b 0) 1 0 [],by simp only [aN,oz,p,q];rfl,?_⟩,⟨rfl,_,by simp only [aN,oz,w,o,v];rfl,ah rfl⟩,tt⟩ trivial rfl ?_ rfl
 ·exact bG h1 rfl (by simp [dO,aT]) rfl (by show y.at []=y;cases y <;> rfl) a6
 ·exact bG h3 rfl (by simp [dO,a1,aT]) rfl (by show d.at []=d;cases d <;> rfl) hno'
 ·have ht:Nat.beq ty ty=true:=by simp
  have b1:Nat.beq c c=true:=by simp
  simp only [zS,aN,oz,x,q,p,v,w,o,adq,ado,adU];simp [VL,ht,b1,show rZ (AV.int a)=true from rfl,nX,fM,a7,a0]
end
end Go.Ab
