/- Part 18 of a proof of a statement about the given program: an abstract machine over the model, proved sound, and contracts of the functions that the statement reaches; the last part proves the statement, for every input, with no condition. -/
import Derived.Test.YtcfelhfcjdofoaaGreatDoorX15
import Derived.Test.YtcfelhfcjdofoaaGreatDoorX16
import Derived.Test.YtcfelhfcjdofoaaGreatDoorX13
import Derived.Shelf.SlSortCmp.NoneTotal
set_option autoImplicit false
set_option linter.unusedSimpArgs false
set_option linter.unusedVariables false
set_option maxHeartbeats 4000000
set_option maxRecDepth 20000
namespace Go.Ab
open Go.Proofs
def bA (k:IntKind) (x y:Int):Int:=k.wrap ((BitVec.ofInt k.bits x &&& BitVec.ofInt k.bits y).toNat:Nat)
def bO (k:IntKind) (x y:Int):Int:=k.wrap ((BitVec.ofInt k.bits x ||| BitVec.ofInt k.bits y).toNat:Nat)
def bX (k:IntKind) (x y:Int):Int:=k.wrap ((BitVec.ofInt k.bits x ^^^ BitVec.ofInt k.bits y).toNat:Nat)
def bN (k:IntKind) (x y:Int):Int:=k.wrap ((BitVec.ofInt k.bits x &&& ~~~BitVec.ofInt k.bits y).toNat:Nat)
abbrev wI (x:Int):Int:=IntKind.i64.wrap x
abbrev wU (x:Int):Int:=IntKind.u64.wrap x
theorem sD (x:Int):0<=wU x/\wU x<18446744073709551616:=by rw [wU,IntKind.wrap_u64];omega
def jU (b:Bool):Int:=if b then 1 else 0
theorem Ar (b:Bool):AC Tryz.prog T aH 290 [.bool b] [] (.int (jU b)) []:=by
 refine aX Tryz.func290 ?_;refine sg rfl (sq (sq (rg [] rfl ?_)));refine cd rfl (λa=>?_) (λa=>?_)
 ·refine sg rfl (rX ?_);refine bf hT (by rfl) ?_;simp_all [jU]
 refine sk (sq (rg [] rfl ?_));refine rX ?_;refine bf hT (by rfl) ?_;simp_all [jU]
def kR (op:Int):Int:=if 1<=op/\op<=15 then 1 else if 16<=op/\op<=36 then 2 else 0
theorem P6 (op:Int):AC Tryz.prog T aH 268 [.int op] [] (.int (kR op)) []:=by
 refine aX Tryz.func268 ?_;refine sg rfl (sq (bk (sq (rg [] rfl ?_))));refine cd rfl (λa=>?_) (λa=>?_)
 ·simp only [band]at a;simp at a;exact sg rfl (WP.ret (bf hT (by rfl) (by rw [kR,aa2 a])))
 simp only [band]at a;simp at a;refine sg rfl (cd rfl (λb=>?_) (λb=>?_));{simp only [band]at b;simp at b;exact sg rfl (WP.ret (bf hT (by rfl) (by rw [kR,xw (by omega),aa2 (by omega)])))};simp only [band]at b;simp at b;refine sk (sq (rg [] rfl ?_));exact WP.ret (bf hT (by rfl) (by rw [kR,xw (by omega),xw (by omega)]))
def CQ (x:Int):Int:=wU (bA .u64 (x.fdiv 2) 6148914691236517205+bA .u64 x 6148914691236517205)
def EO (x:Int):Int:=wU (bA .u64 (x.fdiv 4) 3689348814741910323+bA .u64 x 3689348814741910323)
def Ho (x:Int):Int:=bA .u64 (wU (x.fdiv 16+x)) 1085102592571150095
def qG (k x:Int):Int:=wU (x+x.fdiv k)
def Hl (x:Int):Int:=bA .i64 (wI (qG 4294967296 (qG 65536 (qG 256 (Ho (EO (CQ x))))))) 127
theorem aag (x:Int):AC Tryz.prog T aH 286 [.v (.int .u64 x)] [] (.int (Hl x)) []:=by
 refine aX Tryz.func286 ?_;refine sg rfl (sg rfl ?_);refine sq (WP.ent (st':=aN [(0,.v (.int .u64 (CQ x)))] []) ?_ ?_)
 ·refine eX cX trivial
 refine rg [] rfl (sq ?_);refine WP.ent (st':=aN [(0,.v (.int .u64 (EO (CQ x))))] []) ?_ ?_
 ·refine eX cX trivial
 refine rg [] rfl (sq ?_);refine WP.ent (st':=aN [(0,.v (.int .u64 (Ho (EO (CQ x)))))] []) ?_ ?_
 ·refine eX cX trivial
 refine rg [] rfl (sq ?_);refine WP.ent (st':=aN [(0,.v (.int .u64 (qG 256 (Ho (EO (CQ x))))))] []) ?_ ?_
 ·refine eX cX trivial
 refine rg [] rfl (sq ?_);refine WP.ent (st':=aN [(0,.v (.int .u64 (qG 65536 (qG 256 (Ho (EO (CQ x)))))))] []) ?_ ?_
 ·refine eX cX trivial
 refine rg [] rfl (sq ?_);refine WP.ent (st':=aN [(0,.v (.int .u64 (qG 4294967296 (qG 65536 (qG 256 (Ho (EO (CQ x))))))))] []) ?_ ?_
 ·refine eX cX trivial
 exact rg [] rfl (WP.ret (bf hT (by rfl) rfl))
theorem aaw (x:Int) (a:0<=x) (b:x<18446744073709551616):AC Tryz.prog T aH 287 [.v (.int .u64 x)] [] (.int (64 - (Go.Lib.bitLen x.toNat:Int))) [] :=
 AC.of_calls (xs:=[.int .u64 x]) ⟨_,Tryz.func287,rfl,rfl⟩ (λI ρ=>gu rfl) λw _=>Any.bits_LeadingZeros64 Tryz.layLz x w a (by omega)
theorem WO (x:Int) (b:0<=x) (c:x<18446744073709551616):AC Tryz.prog T aH 288 [.v (.int .u64 x)] [] (.int (Go.Lib.ctz 64 x.toNat:Nat)) []:=by
 obtain ⟨n,rfl⟩:=aeV b;exact AC.of_calls (xs:=[.int .u64 n]) ⟨_,Tryz.func288,rfl,rfl⟩ (λI ρ=>gu rfl) λw hw=>Any7.bits_TrailingZeros64 Tryz.layTz n (by omega) w λ_ j a=>hw 0 j _ (by
  show Wu[j]? = _
  have e:Wu=Go.Lib.deBruijn64tab:=rfl
  rw [e,Y0 a,aae,Y0 a]
  rfl)
theorem abW (x y:Nat) (hx:x<18446744073709551616) (a:y<18446744073709551616):AC Tryz.prog T aH 299 [.v (.int .u64 x),.v (.int .u64 y)] [] (.tup [.v (.int .u64 ((x*y / 18446744073709551616:Nat):Int)),.v (.int .u64 ((x*y % 18446744073709551616:Nat):Int))]) [] :=
 AC.of_calls (xs:=[.int .u64 x,.int .u64 y]) ⟨_,Tryz.func299,rfl,rfl⟩ (λI ρ => .tup _ rfl λi c h=>match i,h with | 0,h=>by cases h;exact Ea rfl | 1,h=>by cases h;exact Ea rfl) λw _=>Any.bits_Mul64 Tryz.layMul x y hx a w
def Bz (a:Int):Nat->Int
 | 0=>0
 | k+1=>bO .u64 (Bz a k) (wU (bA .u64 ((wU a).fdiv (2 ^ min k 64)) 1*2 ^ (min (63 - k) 64)))
def Ph (a:Int):Int:=wI (Bz a 64)
theorem aaH (a:Int):AC Tryz.prog T aH 289 [.int a] [] (.int (Ph a)) []:=by
 refine aX Tryz.func289 ?_;refine sg rfl (sg rfl ?_);refine sq (sq (rg [] rfl ?_));refine bk (WP.loop (α:=Nat) (λk=>aN [(0,.int a),(3,.v (.int .u64 (Bz a k))),(5,.int k)] []) (λk=>k<=64) (λk=>64 - k) ?_ ?_)
 ·refine ⟨0,?_,?_⟩;{exact abq _};refine eX cX trivial
 rintro k hk;refine sg rfl (sq ?_);refine cd rfl (λd=>?_) (λd=>?_);{(have b:k<64:=by simp at d;omega);(have c:IntKind.i64.wrap (63 - (k:Int))=((63 - k:Nat):Int):=by rw [bK (by omega) (by omega)];omega);refine sk (sq (bk (sq (rg [] rfl ?_))));refine rgs [] rfl ?_ ?_;{simp only [ay,under];(repeat' refine And.intro ?_ ?_);all_goals (first | trivial | (rw [c];omega) | omega)};refine rg [] rfl ⟨k+1,?_,?_,?_⟩;{exact b};{refine eX ⟨cq,⟨rfl,_,rfl,ah (by rw [Bz,bO,bA];simp only [c,adu];rfl)⟩,cq,tt⟩ trivial};(try simp only []);first | omega | grind};(have b:k=64:=by simp at d;omega);subst b;refine xt (sq (rg [] rfl ?_));exact WP.ret (bf hT (by rfl) rfl)
def Qz (x r:Int):Int:=bO .u64 (wU (x*2 ^ (min (bA .u64 (wU r) 63).toNat 64))) (x.fdiv (2 ^ (min (wU (64 - bA .u64 (wU r) 63)).toNat 64)))
theorem ac0 (x y:Int):0<=bA .u64 x y/\bA .u64 x y<18446744073709551616:=sD _
theorem abE (x r:Int):AC Tryz.prog T aH 291 [.v (.int .u64 x),.int r] [] (.v (.int .u64 (Qz x r))) []:=by
 refine aX Tryz.func291 ?_;refine sg rfl (sg rfl ?_);refine sq (rgs [] rfl ?_ ?_)
 ·have a:=ac0 (wU r) 63;have b:=sD (64 - bA .u64 (wU r) 63);simp only [ay,under];exact ⟨a.1,b.1⟩
 exact WP.ret (aJ hT [] (ts:=[(4,.v (.int .u64 (Qz x r)))]) (l:=[.v (.int .u64 (Qz x r))]) trivial ⟨⟨rfl,_,rfl,ah rfl⟩,tt⟩ trivial rfl rfl rfl)
def TA (a b:Int):Int:=(((wU a).toNat*(wU b).toNat / 18446744073709551616:Nat):Int)
def Ii (a b:Int):Int:=if a<0 then wU (TA a b - wU b)else TA a b
def oG (a b:Int):Int:=if b<0 then wU (Ii a b - wU a)else Ii a b
def wO (a b:Int):Int:=(((wU a).toNat*(wU b).toNat % 18446744073709551616:Nat):Int)
theorem ZB (a b:Int):AC Tryz.prog T aH 292 [.int a,.int b] [] (.tup [.int (wI (oG a b)),.v (.int .u64 (wO a b))]) []:=by
 refine aX Tryz.func292 ?_;refine sg rfl (sq (rgs [CG.pure (.tup [.v (.int .u64 (TA a b)),.v (.int .u64 (wO a b))])] rfl ?_ ?_))
 ·have e:=sD a;have c:=sD b;have f:=abW (wU a).toNat (wU b).toNat (by omega) (by omega);rw [aeI e.1,aeI c.1]at f;exact au
 refine sq (sq (rg [] rfl ?_));refine cd rfl (λc=>?_) (λc=>?_)
 ·refine rg [] rfl (sq (sq (rg [] rfl ?_)));refine cd rfl (λd=>?_) (λd=>?_);{refine rg [] rfl (sg rfl ?_);refine rX ?_;exact aJ hT [] (ts:=[(4,.int (wI (oG a b))),(5,.v (.int .u64 (wO a b)))]) (l:=[.int (wI (oG a b)),.v (.int .u64 (wO a b))]) trivial ⟨⟨rfl,_,rfl,ah (by simp at c d;simp only [oG,Ii];(repeat' split) <;> first | rfl | omega)⟩,⟨rfl,_,rfl,ah rfl⟩,tt⟩ trivial rfl rfl rfl};refine sk (sq (rg [] rfl ?_));refine rX ?_;exact aJ hT [] (ts:=[(4,.int (wI (oG a b))),(5,.v (.int .u64 (wO a b)))]) (l:=[.int (wI (oG a b)),.v (.int .u64 (wO a b))]) trivial ⟨⟨rfl,_,rfl,ah (by simp at c d;simp only [oG,Ii];(repeat' split) <;> first | rfl | omega)⟩,⟨rfl,_,rfl,ah rfl⟩,tt⟩ trivial rfl rfl rfl
 refine sk (sq (sq (rg [] rfl ?_)));refine cd rfl (λd=>?_) (λd=>?_);{refine rg [] rfl (sg rfl ?_);refine rX ?_;exact aJ hT [] (ts:=[(4,.int (wI (oG a b))),(5,.v (.int .u64 (wO a b)))]) (l:=[.int (wI (oG a b)),.v (.int .u64 (wO a b))]) trivial ⟨⟨rfl,_,rfl,ah (by simp at c d;simp only [oG,Ii];(repeat' split) <;> first | rfl | omega)⟩,⟨rfl,_,rfl,ah rfl⟩,tt⟩ trivial rfl rfl rfl};refine sk (sq (rg [] rfl ?_));refine rX ?_;exact aJ hT [] (ts:=[(4,.int (wI (oG a b))),(5,.v (.int .u64 (wO a b)))]) (l:=[.int (wI (oG a b)),.v (.int .u64 (wO a b))]) trivial ⟨⟨rfl,_,rfl,ah (by simp at c d;simp only [oG,Ii];(repeat' split) <;> first | rfl | omega)⟩,⟨rfl,_,rfl,ah rfl⟩,tt⟩ trivial rfl rfl rfl
def lJ (op a:Int):Int:=if op=3 then (if 0<=a then a else wI (0 - a))else if op=1 then wI (0 - a)else if op=2 then bX .i64 (-1) a else if op=4 then Hl (wU a)else
 if op=5 then 64 - (Go.Lib.bitLen (wU a).toNat:Int)else if op=6 then (Go.Lib.ctz 64 (wU a).toNat:Nat)else if op=7 then Ph a else if op=8 then jU (a != 0)else if op=9 then jU (a==0)else
 if op=10 then wI (IntKind.i8.wrap a)else if op=11 then wI (IntKind.i16.wrap a)else if op=12 then wI (IntKind.i32.wrap a)else if op=13 then wI (IntKind.u8.wrap a)else if op=14 then wI (IntKind.u16.wrap a)else wI (IntKind.u32.wrap a)
theorem abS (op a:Int):AC Tryz.prog T aH 269 [.int op,.int a] [] (.int (lJ op a)) []:=by
 refine aX Tryz.func269 ?_;refine sg rfl (sq (sq (rg [] rfl ?_)));refine bk (sq (bk (sq (bk (sq (bk (sq (bk (sq (bk (sq (bk (sq (bk (sq (bk (sq (bk (sq (bk (sq (bk (sq (bk (sq (bk (sq (bk (sq (sq (sq (rg [] rfl ?_))))))))))))))))))))))))))))))));refine cd rfl (λj=>?_) (λj=>?_)
 ·refine xt (sq (rg [] rfl ?_));refine cd rfl (λi=>?_) (λi=>?_);{refine sg rfl (rX ?_);refine bf hT (by rfl) ?_;simp only [adk,aco,acf,acD]at *;unfold lJ;simp_all;all_goals (first | rfl | (intro;omega))};refine sk (sq (sq (rg [] rfl ?_)));refine rX ?_;refine bf hT (by rfl) ?_;simp only [adk,aco,acf,acD]at *;unfold lJ;simp_all;all_goals (first | rfl | (intro;omega))
 refine sk (sq (sq (rg [] rfl ?_)));refine cd rfl (λk=>?_) (λk=>?_);{refine xt (sq (sq (rg [] rfl ?_)));refine rX ?_;refine bf hT (by rfl) ?_;simp only [adk,aco,acf,acD]at *;unfold lJ;simp_all;all_goals (first | rfl | (intro;omega))};refine sk (sq (sq (rg [] rfl ?_)));refine cd rfl (λl=>?_) (λl=>?_);{refine xt (sq (sq (rg [] rfl ?_)));refine rX ?_;refine bf hT (by rfl) ?_;simp only [adk,aco,acf,acD]at *;unfold lJ;simp_all;all_goals (first | rfl | (intro;omega))};refine sk (sq (sq (rg [] rfl ?_)));refine cd rfl (λm=>?_) (λm=>?_);{refine xt (sq (sq (rgs [CG.pure (.int (Hl (wU a)))] rfl ?_ ?_)));{have b:=aag (wU a);exact au};refine rX ?_;refine bf hT (by rfl) ?_;simp only [adk,aco,acf,acD]at *;unfold lJ;simp_all;all_goals (first | rfl | (intro;omega))};refine sk (sq (sq (rg [] rfl ?_)));refine cd rfl (λn=>?_) (λn=>?_);{refine xt (sq (sq (rgs [CG.pure (.int (64 - (Go.Lib.bitLen (wU a).toNat:Int)))] rfl ?_ ?_)));{have b:=aaw (wU a) (sD a).1 (sD a).2;exact au};refine rX ?_;refine bf hT (by rfl) ?_;simp only [adk,aco,acf,acD]at *;unfold lJ;simp_all;all_goals (first | rfl | (intro;omega))};refine sk (sq (sq (rg [] rfl ?_)));refine cd rfl (λo=>?_) (λo=>?_);{refine xt (sq (sq (rgs [CG.pure (.int (Go.Lib.ctz 64 (wU a).toNat:Nat))] rfl ?_ ?_)));{have b:=WO (wU a) (sD a).1 (sD a).2;exact au};refine rX ?_;refine bf hT (by rfl) ?_;simp only [adk,aco,acf,acD]at *;unfold lJ;simp_all;all_goals (first | rfl | (intro;omega))};refine sk (sq (sq (rg [] rfl ?_)));refine cd rfl (λp=>?_) (λp=>?_);{refine xt (sq (sq (rgs [CG.pure (.int (Ph a))] rfl ?_ ?_)));{have b:=aaH a;exact au};refine rX ?_;refine bf hT (by rfl) ?_;simp only [adk,aco,acf,acD]at *;unfold lJ;simp_all;all_goals (first | rfl | (intro;omega))};refine sk (sq (sq (rg [] rfl ?_)));refine cd rfl (λq=>?_) (λq=>?_);{refine xt (sq (sq (rgs [CG.pure (.int (jU (a != 0)))] rfl ?_ ?_)));{have b:=Ar (a != 0);exact au};refine rX ?_;refine bf hT (by rfl) ?_;simp only [adk,aco,acf,acD]at *;unfold lJ;simp_all;all_goals (first | rfl | (intro;omega))};refine sk (sq (sq (rg [] rfl ?_)));refine cd rfl (λc=>?_) (λc=>?_);{refine xt (sq (sq (rgs [CG.pure (.int (jU (a==0)))] rfl ?_ ?_)));{have b:=Ar (a==0);exact au};refine rX ?_;refine bf hT (by rfl) ?_;simp only [adk,aco,acf,acD]at *;unfold lJ;simp_all;all_goals (first | rfl | (intro;omega))};refine sk (sq (sq (rg [] rfl ?_)));refine cd rfl (λd=>?_) (λd=>?_);{refine xt (sq (sq (rg [] rfl ?_)));refine rX ?_;refine bf hT (by rfl) ?_;simp only [adk,aco,acf,acD]at *;unfold lJ;simp_all;all_goals (first | rfl | (intro;omega))};refine sk (sq (sq (rg [] rfl ?_)));refine cd rfl (λe=>?_) (λe=>?_);{refine xt (sq (sq (rg [] rfl ?_)));refine rX ?_;refine bf hT (by rfl) ?_;simp only [adk,aco,acf,acD]at *;unfold lJ;simp_all;all_goals (first | rfl | (intro;omega))};refine sk (sq (sq (rg [] rfl ?_)));refine cd rfl (λf=>?_) (λf=>?_);{refine xt (sq (sq (rg [] rfl ?_)));refine rX ?_;refine bf hT (by rfl) ?_;simp only [adk,aco,acf,acD]at *;unfold lJ;simp_all;all_goals (first | rfl | (intro;omega))};refine sk (sq (sq (rg [] rfl ?_)));refine cd rfl (λg=>?_) (λg=>?_);{refine xt (sq (sq (rg [] rfl ?_)));refine rX ?_;refine bf hT (by rfl) ?_;simp only [adk,aco,acf,acD]at *;unfold lJ;simp_all;all_goals (first | rfl | (intro;omega))};refine sk (sq (rg [] rfl ?_));refine cd rfl (λh=>?_) (λh=>?_);{refine xt (sq (sq (rg [] rfl ?_)));refine rX ?_;refine bf hT (by rfl) ?_;simp only [adk,aco,acf,acD]at *;unfold lJ;simp_all;all_goals (first | rfl | (intro;omega))};refine sk (xt (sq (rg [] rfl ?_)));refine rX ?_;refine bf hT (by rfl) ?_;simp only [adk,aco,acf,acD]at *;unfold lJ;simp_all;all_goals (first | rfl | (intro;omega))
def yA (op a b:Int):Int×Int:=if b=0 then (0,20)else if op=19/\b = -1 then (wI (0 - a),0)else if op=19 then (wI (a.tdiv b),0)else if b = -1 then (0,0)else (a.tmod b,0)
theorem ku {nt:Nat} {t:Nat->Option (D×AV)} {m:Id->Option Ob} {j k:Nat} {a b c d:Int} (g:t j=some (.always,.int a)) (h:t k=some (.always,.int b)) (f:Nat.beq k j=false) (e:(a,b)=(c,d)):Fin T aH nt 0 [.tmp j,.tmp k] (.tup [.int c,.int d]) [] ⟨t,m⟩:=by
 cases e;refine aJ hT [] (ts:=[(j,.int a),(k,.int b)]) (l:=[.int a,.int b]) trivial ⟨⟨rfl,_,g,ah rfl⟩,⟨rfl,_,h,ah rfl⟩,tt⟩ trivial rfl ?_ rfl;have i:Nat.beq j j=true:=by simp
 have hk:Nat.beq k k=true:=by simp
 simp only [Ae,aN,oz,f,i,hk];rfl
theorem Rz (op a b:Int):AC Tryz.prog T aH 270 [.int op,.int a,.int b] [] (.tup [.int (yA op a b).1,.int (yA op a b).2]) []:=by
 refine aX Tryz.func270 ?_;refine sg rfl (sq (bk (sq (rg [] rfl ?_))));refine cd rfl (λc=>?_) (λc=>?_)
 ·refine sg rfl (rX ?_);refine ku (by rfl) (by rfl) rfl ?_;simp only [band,adk,aco]at *;unfold yA;simp_all
 refine sg rfl (cd rfl (λd=>?_) (λd=>?_));{refine sg rfl (rX ?_);refine ku (by rfl) (by rfl) rfl ?_;simp only [band,adk,aco]at *;unfold yA;simp_all};refine sg rfl (cd rfl (λe=>?_) (λe=>?_));{refine sq (rgs [] rfl ?_ ?_);{simp [ay,under]at *;assumption};refine rX ?_;refine ku (by rfl) (by rfl) rfl ?_;simp only [band,adk,aco]at *;unfold yA;simp_all};refine sg rfl (cd rfl (λf=>?_) (λf=>?_));{refine sg rfl (rX ?_);refine ku (by rfl) (by rfl) rfl ?_;simp only [band,adk,aco]at *;unfold yA;simp_all};refine sk (sq (rgs [] rfl ?_ ?_));{simp [ay,under]at *;assumption};refine rX ?_;refine ku (by rfl) (by rfl) rfl ?_;simp only [band,adk,aco]at *;unfold yA;simp_all
def NJ (op a b:Int):Int×Int:=if b<0 then (0,21)else if op=25 then (wI (a*2 ^ (min (wU b).toNat 64)),0)else if op=26 then (a.fdiv (2 ^ (min (wU b).toNat 64)),0)else (wI ((wU a).fdiv (2 ^ (min (wU b).toNat 64))),0)
theorem Qp (op a b:Int):AC Tryz.prog T aH 271 [.int op,.int a,.int b] [] (.tup [.int (NJ op a b).1,.int (NJ op a b).2]) []:=by
 refine aX Tryz.func271 ?_;refine sg rfl (sq (bk (sq (rg [] rfl ?_))));refine cd rfl (λc=>?_) (λc=>?_)
 ·refine sg rfl (rX ?_);refine ku (by rfl) (by rfl) rfl ?_;simp only [band,adk,aco,acf,acD]at *;unfold NJ;(repeat' split) <;> first | rfl | omega
 refine sg rfl (cd rfl (λd=>?_) (λd=>?_));{refine sq (rgs [] rfl ?_ ?_);{exact (sD b).1};refine rX ?_;refine ku (by rfl) (by rfl) rfl ?_;simp only [band,adk,aco,acf,acD]at *;unfold NJ;(repeat' split) <;> first | rfl | omega};refine sg rfl (cd rfl (λe=>?_) (λe=>?_));{refine sq (rgs [] rfl ?_ ?_);{exact (sD b).1};refine rX ?_;refine ku (by rfl) (by rfl) rfl ?_;simp only [band,adk,aco,acf,acD]at *;unfold NJ;(repeat' split) <;> first | rfl | omega};refine sk (sq (rgs [] rfl ?_ ?_));{exact (sD b).1};refine rX ?_;refine ku (by rfl) (by rfl) rfl ?_;simp only [band,adk,aco,acf,acD]at *;unfold NJ;(repeat' split) <;> first | rfl | omega
def mg (op a b:Int):Int:=if op=16 then wI (a+b)else if op=17 then wI (a - b)else if op=18 then wI (a*b)else if op=21 then bA .i64 a b else if op=22 then bO .i64 a b else if op=23 then bX .i64 a b else
 if op=24 then bN .i64 a b else if op=28 then wI (Qz (wU a) (bA .i64 b 63))else if op=29 then jU (a==b)else if op=30 then jU (a != b)else if op=31 then jU (decide (a<b))else
 if op=32 then jU (decide (a<=b))else if op=33 then jU (decide (wU a<wU b))else if op=34 then (if b<a then b else a)else if op=35 then (if b>a then b else a)else wI (oG a b)
theorem abu (op a b:Int):AC Tryz.prog T aH 272 [.int op,.int a,.int b] [] (.int (mg op a b)) []:=by
 refine aX Tryz.func272 ?_;refine sg rfl (sq (sq (rg [] rfl ?_)));refine bk (sq (rg [] rfl ?_));refine cd rfl (λo=>?_) (λo=>?_)
 ·refine sg rfl (rX ?_);refine bf hT (by rfl) ?_;simp only [adk,aco]at *;unfold mg;simp_all only [Int.reduceEq,ad9,adM,ne_eq,adL,adS];all_goals rfl
 refine sg rfl (cd rfl (λp=>?_) (λp=>?_));{refine sg rfl (rX ?_);refine bf hT (by rfl) ?_;simp only [adk,aco]at *;unfold mg;simp_all only [Int.reduceEq,ad9,adM,ne_eq,adL,adS];all_goals rfl};refine sg rfl (cd rfl (λq=>?_) (λq=>?_));{refine sg rfl (rX ?_);refine bf hT (by rfl) ?_;simp only [adk,aco]at *;unfold mg;simp_all only [Int.reduceEq,ad9,adM,ne_eq,adL,adS];all_goals rfl};refine sg rfl (cd rfl (λr=>?_) (λr=>?_));{refine sg rfl (rX ?_);refine bf hT (by rfl) ?_;simp only [adk,aco]at *;unfold mg;simp_all only [Int.reduceEq,ad9,adM,ne_eq,adL,adS];all_goals rfl};refine sg rfl (cd rfl (λd=>?_) (λd=>?_));{refine sg rfl (rX ?_);refine bf hT (by rfl) ?_;simp only [adk,aco]at *;unfold mg;simp_all only [Int.reduceEq,ad9,adM,ne_eq,adL,adS];all_goals rfl};refine sg rfl (cd rfl (λe=>?_) (λe=>?_));{refine sg rfl (rX ?_);refine bf hT (by rfl) ?_;simp only [adk,aco]at *;unfold mg;simp_all only [Int.reduceEq,ad9,adM,ne_eq,adL,adS];all_goals rfl};refine sg rfl (cd rfl (λf=>?_) (λf=>?_));{refine sg rfl (rX ?_);refine bf hT (by rfl) ?_;simp only [adk,aco]at *;unfold mg;simp_all only [Int.reduceEq,ad9,adM,ne_eq,adL,adS];all_goals rfl};refine sg rfl (cd rfl (λg=>?_) (λg=>?_));{refine sq (rgs [CG.pure (.v (.int .u64 (Qz (wU a) (bA .i64 b 63))))] rfl ?_ ?_);{have c:=abE (wU a) (bA .i64 b 63);exact au};refine rX ?_;refine bf hT (by rfl) ?_;simp only [adk,aco]at *;unfold mg;simp_all only [Int.reduceEq,ad9,adM,ne_eq,adL,adS];all_goals rfl};refine sg rfl (cd rfl (λh=>?_) (λh=>?_));{refine sq (rgs [CG.pure (.int (jU (a==b)))] rfl ?_ ?_);{have c:=Ar (a==b);exact au};refine rX ?_;refine bf hT (by rfl) ?_;simp only [adk,aco]at *;unfold mg;simp_all only [Int.reduceEq,ad9,adM,ne_eq,adL,adS];all_goals rfl};refine sg rfl (cd rfl (λi=>?_) (λi=>?_));{refine sq (rgs [CG.pure (.int (jU (a != b)))] rfl ?_ ?_);{have c:=Ar (a != b);exact au};refine rX ?_;refine bf hT (by rfl) ?_;simp only [adk,aco]at *;unfold mg;simp_all only [Int.reduceEq,ad9,adM,ne_eq,adL,adS];all_goals rfl};refine sg rfl (cd rfl (λj=>?_) (λj=>?_));{refine sq (rgs [CG.pure (.int (jU (decide (a<b))))] rfl ?_ ?_);{have c:=Ar (decide (a<b));exact au};refine rX ?_;refine bf hT (by rfl) ?_;simp only [adk,aco]at *;unfold mg;simp_all only [Int.reduceEq,ad9,adM,ne_eq,adL,adS];all_goals rfl};refine sg rfl (cd rfl (λk=>?_) (λk=>?_));{refine sq (rgs [CG.pure (.int (jU (decide (a<=b))))] rfl ?_ ?_);{have c:=Ar (decide (a<=b));exact au};refine rX ?_;refine bf hT (by rfl) ?_;simp only [adk,aco]at *;unfold mg;simp_all only [Int.reduceEq,ad9,adM,ne_eq,adL,adS];all_goals rfl};refine sg rfl (cd rfl (λl=>?_) (λl=>?_));{refine sq (rgs [CG.pure (.int (jU (decide (wU a<wU b))))] rfl ?_ ?_);{have c:=Ar (decide (wU a<wU b));exact au};refine rX ?_;refine bf hT (by rfl) ?_;simp only [adk,aco]at *;unfold mg;simp_all only [Int.reduceEq,ad9,adM,ne_eq,adL,adS];all_goals rfl};refine sg rfl (cd rfl (λm=>?_) (λm=>?_));{refine sg rfl (rX ?_);refine bf hT (by rfl) ?_;simp only [adk,aco]at *;unfold mg;simp_all only [Int.reduceEq,ad9,adM,ne_eq,adL,adS];all_goals rfl};refine sg rfl (cd rfl (λn=>?_) (λn=>?_));{refine sg rfl (rX ?_);refine bf hT (by rfl) ?_;simp only [adk,aco]at *;unfold mg;simp_all only [Int.reduceEq,ad9,adM,ne_eq,adL,adS];all_goals rfl};refine sk (sq (rgs [CG.pure (.tup [.int (wI (oG a b)),.v (.int .u64 (wO a b))])] rfl ?_ ?_));{have c:=ZB a b;exact au};refine sg rfl (rX ?_);refine bf hT (by rfl) ?_;simp only [adk,aco]at *;unfold mg;simp_all only [Int.reduceEq,ad9,adM,ne_eq,adL,adS];all_goals rfl
def lG (op a b:Int):Int×Int:=if kR op=0 then (0,22)else if kR op=1 then (lJ op a,0)else if op=19\/op=20 then yA op a b else if 25<=op/\op<=27 then NJ op a b else (mg op a b,0)
theorem Zp (op a b:Int):AC Tryz.prog T aH 244 [.int op,.int a,.int b] [] (.tup [.int (lG op a b).1,.int (lG op a b).2]) []:=by
 refine aX Tryz.func244 ?_;refine sg rfl (sq (bk (sq (rgs [CG.pure (.int (kR op))] rfl ?_ ?_))))
 ·have c:=P6 op;exact au
 refine cd rfl (λd=>?_) (λd=>?_)
 ·refine sg rfl (rX ?_);refine ku (by rfl) (by rfl) rfl ?_;(try simp only [fG,band]at *);simp at *;unfold lG;(repeat' split) <;> first | rfl | omega
 refine sq (rgs [CG.pure (.int (kR op))] rfl ?_ ?_);{have c:=P6 op;exact au};refine cd rfl (λe=>?_) (λe=>?_);{refine sq (rgs [CG.pure (.int (lJ op a))] rfl ?_ ?_);{have c:=abS op a;exact au};refine rX ?_;refine ku (by rfl) (by rfl) rfl ?_;(try simp only [fG,band]at *);simp at *;unfold lG;(repeat' split) <;> first | rfl | omega};refine sg rfl (cd rfl (λf=>?_) (λf=>?_));{refine sq (rgs [CG.pure (.tup [.int (yA op a b).1,.int (yA op a b).2])] rfl ?_ ?_);{have c:=Rz op a b;exact au};refine rX ?_;refine ku (by rfl) (by rfl) rfl ?_;(try simp only [fG,band]at *);simp at *;unfold lG;(repeat' split) <;> first | rfl | omega};refine sg rfl (cd rfl (λg=>?_) (λg=>?_));{refine sq (rgs [CG.pure (.tup [.int (NJ op a b).1,.int (NJ op a b).2])] rfl ?_ ?_);{have c:=Qp op a b;exact au};refine rX ?_;refine ku (by rfl) (by rfl) rfl ?_;(try simp only [fG,band]at *);simp at *;unfold lG;(repeat' split) <;> first | rfl | omega};refine sk (sq (rgs [CG.pure (.int (mg op a b))] rfl ?_ ?_));{have c:=abu op a b;exact au};refine rX ?_;refine ku (by rfl) (by rfl) rfl ?_;(try simp only [fG,band]at *);simp at *;unfold lG;(repeat' split) <;> first | rfl | omega
def z8:List Int:=[0,0,0,0,0,0,0,0]
def kP (g:iW) (st why:Int):iW:={ g with status:=st,why:=why,regs:=z8}
theorem Gf (t:Nat):(AV.agg t 8 λ_=>AV.int 0)=lC t 8 .i64 z8:=bH λi=>by match i with | 0 | 1 | 2 | 3 | 4 | 5 | 6 | 7=>rfl | i+8=>rfl
theorem Y1 (g:iW) (st why:Int):(((bV g).put [0] (.int st)).put [3] (.int why)).put [4] (.agg 52 8 λ_=>AV.int 0)=bV (kP g st why):=by
 rw [gI,Ec,Gf,GZ];rfl
theorem FY (g:iW) (st why:Int):AC Tryz.prog T aH 243 [bV g,.int st,.int why] [] (bV (kP g st why)) []:=by
 refine aX Tryz.func243 ?_;refine sg rfl (sg rfl ?_);exact sg rfl (WP.ret (aW hT rfl rfl rfl rfl rfl (ah (Y1 g st why)) rfl rfl rfl))
def rV (g:iW) (r v:Int):iW:={ g with regs:=g.regs.set r.toNat v}
def CY (g:iW) (x:iG):Int×Int:=lG x.op (bn g x.b) (if x.op>15 then bn g x.c else 0)
def lq (g:iW) (x:iG):iW :=
 if x.op=40 then rV { g with pc:=g.pc+1} x.a x.n else if x.op=41 then rV { g with pc:=g.pc+1} x.a (bn g x.b)else if x.op=42 then { g with pc:=x.a}else
 if x.op=43 then (if bn g x.a≠0 then { g with pc:=x.b}else { g with pc:=g.pc+1})else if x.op=44 then (if bn g x.a=0 then kP g 4 1 else { g with pc:=g.pc+1})else
 if x.op=45 then kP g 3 0 else if (CY g x).2=20 then kP g 4 2 else if (CY g x).2=21 then kP g 4 3 else rV { g with pc:=g.pc+1} x.a (CY g x).1
theorem Bo {g:iW} (h:0<=g.pc/\g.pc<64):(bV g).put [2] (.int (IntKind.i64.wrap (g.pc+1)))=bV { g with pc:=g.pc+1}:=by
 rw [bK (by omega) (by omega)];exact qj _ _
theorem MQ {g:iW} (h:0<=g.pc/\g.pc<64):(bV { g with pc:=g.pc+1}).put [2] (.int (IntKind.i64.wrap (g.pc+1 - 1)))=bV g:=by
 rw [bK (by omega) (by omega),qj];congr 1;cases g;simp
theorem Yi (p:ak) (f:gq) (g:iW) (x:iG) (hf:xk p f) (hx:DN p f x) (hl:nR x.op=true) (hg:Bd g) (j:0<=g.pc/\g.pc<64):AC Tryz.prog T aH 205 [bV g,aQ x] [] (bV (lq g x)) []:=by
 refine aX Tryz.func205 ?_;have hr:=hf.regs;have a8:g.regs.length=8:=hg;have b0:(1<=x.op/\x.op<=36)\/(40<=x.op/\x.op<=45):=by simp [nR]at hl;omega
 have hn:=hx.num;have y:=hx.num2;have hc:=hx.const;have hm:=hx.move;have hj:=hx.jump;have a6:=hx.cond;simp only [jc,aZ]at hn y hc hm hj a6;refine sg rfl (sg rfl ?_);refine sq (sq ?_);refine WP.ent (st':=aN [(3,.rp 120 (aQ x)),(2,.ptr (.s 2 0) 1 0 []),(4,.ptr (.s 4 0) 1 0 [])] [(.s 2 0,.cells ⟨59,1,λ_=>bV { g with pc:=g.pc+1},0⟩),(.s 4 0,.cells ⟨59,1,λ_=>(T 59).zero,0⟩)]) (em [(.s 3 0,1)] ⟨sF,tt⟩ ⟨rq,cq,cq,tt⟩ ⟨obs rfl (hg:=q0 (ah (Bo j))),obs rfl,tt⟩) ?_;refine rg [] rfl (bk (sq (rg [] rfl ?_)));refine cd rfl (λo=>?_) (λo=>?_)
 ·(have e:x.op=40:=by simpa using o);have:=hc (.inl e);refine rgs [] rfl ?_ ?_;{simp [-List.getD_eq_getElem?_getD,ay,under];omega};refine sg rfl (rX ?_);refine aW hT rfl rfl rfl rfl rfl (ah ?_) rfl rfl rfl;rw [lq,aa2 e];exact kU _ (by show x.a.toNat<g.regs.length;omega)
 (have k:x.op≠40:=by simpa using o);refine sg rfl (cd rfl (λq=>?_) (λq=>?_));{(have e:x.op=41:=by simpa using q);have:=hm e;refine drs [] rfl ?_ ?_;{simp [-List.getD_eq_getElem?_getD,ay,under];omega};refine sg rfl (rX ?_);refine aW hT rfl rfl rfl rfl rfl (ah ?_) rfl rfl rfl;rw [lq,xw k,aa2 e];exact kU _ (by show x.a.toNat<g.regs.length;omega)};(have l:x.op≠41:=by simpa using q);refine sg rfl (cd rfl (λr=>?_) (λr=>?_));{(have e:x.op=42:=by simpa using r);refine rg [] rfl (sg rfl ?_);refine rX ?_;refine aW hT rfl rfl rfl rfl rfl (ah ?_) rfl rfl rfl;rw [lq,xw k,xw l,aa2 e];exact qj _ _};(have m:x.op≠42:=by simpa using r);refine sg rfl (cd rfl (λt=>?_) (λt=>?_));{(have e:x.op=43:=by simpa using t);have:=hc (.inr (.inr (.inr (.inr e))));refine sq (rgs [] rfl ?_ ?_);{simp [-List.getD_eq_getElem?_getD,ay,under];omega};refine cd rfl (λh=>?_) (λh=>?_);{(have d:bn g x.a≠0:=by simp [-List.getD_eq_getElem?_getD]at h;exact h);refine rg [] rfl (sg rfl ?_);refine rX ?_;refine aW hT rfl rfl rfl rfl rfl (ah ?_) rfl rfl rfl;rw [lq,xw k,xw l,xw m,aa2 e,aa2 d];exact qj _ _};(have d:¬ bn g x.a≠0:=by simp [-List.getD_eq_getElem?_getD]at h;simpa using h);refine sk (sq (rg [] rfl ?_));refine rX ?_;refine aW hT rfl rfl rfl rfl rfl (ah ?_) rfl rfl rfl;rw [lq,xw k,xw l,xw m,aa2 e,xw d];rfl};(have w:x.op≠43:=by simpa using t);refine sg rfl (cd rfl (λu=>?_) (λu=>?_));{(have e:x.op=44:=by simpa using u);have:=hc (.inr (.inl e));refine sq (rgs [] rfl ?_ ?_);{simp [-List.getD_eq_getElem?_getD,ay,under];omega};refine cd rfl (λi=>?_) (λi=>?_);{(have d:bn g x.a=0:=by simp [-List.getD_eq_getElem?_getD]at i;exact i);refine sg rfl (sq ?_);refine wE [(2,.ptr (.s 2 0) 1 0 []),(4,.ptr (.s 4 0) 1 0 [])] [(.s 2 0,.cells ⟨59,1,λ_=>bV g,0⟩),(.s 4 0,.cells ⟨59,1,λ_=>(T 59).zero,0⟩)] ⟨obs rfl (hg:=q0 (ah (MQ j))),obs rfl,tt⟩ (rgs [CG.pure (bV (kP g 4 1))] rfl ?_ ?_);{have hq:=FY g 4 1;exact au};refine rX ?_;refine aW hT rfl rfl rfl rfl rfl (ah ?_) rfl rfl rfl;rw [lq,xw k,xw l,xw m,xw w,aa2 e,aa2 d];rfl};(have d:¬ bn g x.a=0:=by simp [-List.getD_eq_getElem?_getD]at i;exact i);refine sk (sq (rg [] rfl ?_));refine rX ?_;refine aW hT rfl rfl rfl rfl rfl (ah ?_) rfl rfl rfl;rw [lq,xw k,xw l,xw m,xw w,aa2 e,xw d];rfl};(have z:x.op≠44:=by simpa using u);refine sg rfl (cd rfl (λv=>?_) (λv=>?_));{(have e:x.op=45:=by simpa using v);refine sg rfl (sq ?_);refine wE [(2,.ptr (.s 2 0) 1 0 []),(4,.ptr (.s 4 0) 1 0 [])] [(.s 2 0,.cells ⟨59,1,λ_=>bV g,0⟩),(.s 4 0,.cells ⟨59,1,λ_=>(T 59).zero,0⟩)] ⟨obs rfl (hg:=q0 (ah (MQ j))),obs rfl,tt⟩ (rgs [CG.pure (bV (kP g 3 0))] rfl ?_ ?_);{have hq:=FY g 3 0;exact au};refine rX ?_;refine aW hT rfl rfl rfl rfl rfl (ah ?_) rfl rfl rfl;rw [lq,xw k,xw l,xw m,xw w,xw z,aa2 e];rfl};(have e5:x.op≠45:=by simpa using v);have:=hn (by omega);refine sg rfl (WP.seqJ (α:=Unit) (λ_=>aN [(2,.ptr (.s 2 0) 1 0 []),(3,.rp 120 (aQ x)),(4,.ptr (.s 4 0) 1 0 []),(5,.int (if x.op>15 then bn g x.c else 0))] [(.s 2 0,.cells ⟨59,1,λ_=>bV { g with pc:=g.pc+1},0⟩),(.s 4 0,.cells ⟨59,1,λ_=>(T 59).zero,0⟩)]) (λ_=>True) ?_ ?_);{refine sg rfl (cd rfl (λh4=>?_) (λh4=>?_));{(have a2:x.op>15:=by simpa using h4);have:=y (by omega);refine rgs [] rfl ?_ ?_;{simp [-List.getD_eq_getElem?_getD,ay,under];omega};refine ⟨(),?_,?_⟩;{trivial};refine eX ⟨cq,cq,cq,⟨rfl,_,rfl,ah (by rw [aa2 a2])⟩,tt⟩ ⟨obs rfl,obs rfl,tt⟩};refine sk ⟨(),?_,?_⟩;{trivial};refine eX ⟨cq,cq,cq,⟨rfl,_,rfl,ah (by rw [xw (by simpa using h4)])⟩,tt⟩ ⟨obs rfl,obs rfl,tt⟩};rintro _ a5;refine sq (drs [CG.pure (.tup [.int (CY g x).1,.int (CY g x).2])] rfl ?_ ?_);{have hq:=Zp x.op (bn g x.b) (if x.op>15 then bn g x.c else 0);exact au};refine sq (sq (rg [] rfl ?_));refine bk (sq (rg [] rfl ?_));refine cd rfl (λh8=>?_) (λh8=>?_);{(have d:(CY g x).2=20:=by simpa using h8);refine sg rfl (sq ?_);refine wE [(2,.ptr (.s 2 0) 1 0 []),(4,.ptr (.s 4 0) 1 0 [])] [(.s 2 0,.cells ⟨59,1,λ_=>bV g,0⟩),(.s 4 0,.cells ⟨59,1,λ_=>(T 59).zero,0⟩)] ⟨obs rfl (hg:=q0 (ah (MQ j))),obs rfl,tt⟩ (rgs [CG.pure (bV (kP g 4 2))] rfl ?_ ?_);{have hq:=FY g 4 2;exact au};refine rX ?_;refine aW hT rfl rfl rfl rfl rfl (ah ?_) rfl rfl rfl;rw [lq,xw k,xw l,xw m,xw w,xw z,xw e5,aa2 d];rfl};(have d:(CY g x).2≠20:=by simpa using h8);refine sg rfl (cd rfl (λn=>?_) (λn=>?_));{(have hy:(CY g x).2=21:=by simpa using n);refine sg rfl (sq ?_);refine wE [(2,.ptr (.s 2 0) 1 0 []),(4,.ptr (.s 4 0) 1 0 [])] [(.s 2 0,.cells ⟨59,1,λ_=>bV g,0⟩),(.s 4 0,.cells ⟨59,1,λ_=>(T 59).zero,0⟩)] ⟨obs rfl (hg:=q0 (ah (MQ j))),obs rfl,tt⟩ (rgs [CG.pure (bV (kP g 4 3))] rfl ?_ ?_);{have hq:=FY g 4 3;exact au};refine rX ?_;refine aW hT rfl rfl rfl rfl rfl (ah ?_) rfl rfl rfl;rw [lq,xw k,xw l,xw m,xw w,xw z,xw e5,xw d,aa2 hy];rfl};(have hy:(CY g x).2≠21:=by simpa using n);refine sk (rgs [] rfl ?_ ?_);{simp [-List.getD_eq_getElem?_getD,ay,under];omega};refine sg rfl (rX ?_);refine aW hT rfl rfl rfl rfl rfl (ah ?_) rfl rfl rfl;rw [lq,xw k,xw l,xw m,xw w,xw z,xw e5,xw d,xw hy];exact kU _ (by show x.a.toNat<g.regs.length;omega)
abbrev KF (F:gq) (g:iW):iG:=F.code.getD g.pc.toNat mZ
def BX (F:gq) (g:iW):Bool:=g.status==1&&nR (KF F g).op
def lV (F:gq):Nat->iW->iW
 | 0,g=>if BX F g then { g with status:=5}else g
 | n+1,g=>if BX F g then lV F n (lq g (KF F g))else g
def Am (F:gq) (g:iW):Prop:=Bd g/\aZ g.pc F.code.length
theorem LY {p:ak} {F:gq} (hF:xk p F) {n:Int} (h:aZ n F.code.length) (he:uQ (F.code.getD n.toNat mZ).op=false):aZ (n+1) F.code.length:=by
 have a:=hF.last;have b:=hF.code;unfold aZ at h ⊢;refine ⟨by omega,?_⟩;rcases Int.lt_or_le (n+1) F.code.length with hl | hl
 ·exact hl
 (have e:n.toNat=F.code.length - 1:=by omega);rw [e]at he;unfold yO at a;rw [a]at he;cases he
theorem Ie {p:ak} {F:gq} (hF:xk p F) {n:Int} (h:aZ n F.code.length):DN p F (F.code.getD n.toNat mZ):=by
 unfold aZ at h;have a:n.toNat<F.code.length:=by omega
 rw [aae,Y0 a];exact hF.ins _ (acr a)
theorem Df {p:ak} {F:gq} (hF:xk p F) {g:iW} (hg:Am F g) (hl:nR (KF F g).op=true):Am F (lq g (KF F g))/\(lq g (KF F g)).func=g.func:=by
 obtain ⟨d,c⟩:=hg;have hi:=Ie hF c;have hn:(KF F g).op≠42->(KF F g).op≠45->aZ (g.pc+1) F.code.length:=λa b=>LY hF c (by
  have:(KF F g).op≠61:=by simp [-List.getD_eq_getElem?_getD,nR]at hl;omega
  simp only [uQ,ad3,aco]
  exact ⟨⟨a,b⟩,this⟩)
 have f:∀ r v,Bd (rV { g with pc:=g.pc+1} r v):=λr v=>by show (g.regs.set _ _).length=8;rw [adI];exact d
 unfold lq;split
 ·rename_i e;exact ⟨⟨f _ _,hn (by omega) (by omega)⟩,rfl⟩
 split
 ·rename_i e;exact ⟨⟨f _ _,hn (by omega) (by omega)⟩,rfl⟩
 split
 ·rename_i e;exact ⟨⟨d,hi.jump e⟩,rfl⟩
 split
 ·rename_i e;split;{exact ⟨⟨d,hi.cond e⟩,rfl⟩};exact ⟨⟨d,hn (by omega) (by omega)⟩,rfl⟩
 split
 ·rename_i e;split;{exact ⟨⟨rfl,c⟩,rfl⟩};exact ⟨⟨d,hn (by omega) (by omega)⟩,rfl⟩
 split
 ·exact ⟨⟨rfl,c⟩,rfl⟩
 split
 ·exact ⟨⟨rfl,c⟩,rfl⟩
 split
 ·exact ⟨⟨rfl,c⟩,rfl⟩
 exact ⟨⟨f _ _,hn (by assumption) (by assumption)⟩,rfl⟩
theorem Lm {p:ak} {F:gq} (hF:xk p F):∀ {n:Nat} {g:iW},Am F g->Am F (lV F n g)/\(lV F n g).func=g.func
 | 0,g,h=>by rw [lV];split;{exact ⟨⟨h.1,h.2⟩,rfl⟩};exact ⟨h,rfl⟩
 | n+1,g,h=>by rw [lV];split;{rename_i e;(have hl:nR (KF F g).op=true:=by have a:=e;rw [BX,abf]at a;exact a.2);obtain ⟨b,c⟩:=Df hF h hl;obtain ⟨a,d⟩:=Lm hF (n:=n) b;exact ⟨a,d.trans c⟩};exact ⟨h,rfl⟩
theorem F9:(T 59).zero=bV go0:=ac8 (λz=>bC 59 [.int 0,.int 0,.int 0,.int 0,z]) (Gf _)
theorem Wy (t:Nat):(AV.agg t 4 λ_=>AV.int 0)=lC t 4 .i64 [0,0,0,0]:=bH λi=>by match i with | 0 | 1 | 2 | 3=>rfl | i+4=>rfl
theorem abl:(T 56).zero=eF BG:=ac8 (λz=>bC 56 [z,.int 0,.bool false,.int 0,.int 0,.int 0]) (Wy _)
theorem zeroS:(T 62).zero=encS st0:=by
 have a:(AV.agg 57 4 λ_=>(T 56).zero)=yT 57 4 eF BG st0.chans:=bH λi=>by rw [abl];match i with | 0 | 1 | 2 | 3=>rfl | i+4=>rfl
 have b:(AV.agg 60 6 λ_=>(T 59).zero)=yT 60 6 bV go0 st0.gos:=bH λi=>by rw [F9];match i with | 0 | 1 | 2 | 3 | 4 | 5=>rfl | i+6=>rfl
 show bC 62 [.agg 52 8 λ_ => .int 0,.agg 53 4 λ_ => .int 0,.agg 57 4 λ_=>(T 56).zero,.agg 60 6 λ_=>(T 59).zero,.int 0]=_;rw [a,b,Gf,Wy];rfl
theorem Ij (n:Int):AC Tryz.prog T aH 142 [.int n] [] (.bool (decide (0<=n/\n<=4096))) []:=by
 refine aX Tryz.func142 ?_;refine sg rfl (sg rfl ?_);refine rX ?_;refine fin1 hT (by rfl) ?_;simp only [band];rw [acs];simp
theorem Gw (p:ak) (g:iW) (n:Nat) (hp:qJ p) (hb:aZ g.func p.funcs.length) (hg:Am (bP p g) g) (hn:n<=4096):AC Tryz.prog T aH 143 [aj p,bV g,.int n] [] (bV (lV (bP p g) n g)) []:=by
 refine aX Tryz.func143 ?_;have hF:xk p (bP p g):=hp.fn _ (by
  unfold aZ at hb
  rw [bP,aae,Y0 (show g.func.toNat<p.funcs.length by omega)]
  exact acr _)
 have h:=hF.code;refine sg rfl (sq (rgs [] rfl ?_ ?_))
 ·unfold aZ at hb;simp [-List.getD_eq_getElem?_getD,ay,under];omega
 refine sq (bk ?_);refine WP.loop (α:=Nat×iW) (λ(⟨k,x⟩:Nat×iW)=>aN [(2,.int k),(4,.ptr (.s 4 0) 1 0 []),(6,.ptr (.s 6 0) 1 0 []),(7,rowP 120 aQ mZ (bP p g).code)] [(.s 4 0,.cells ⟨59,1,λ_=>bV x,0⟩),(.s 6 0,.cells ⟨59,1,λ_=>(T 59).zero,0⟩)]) (λ(⟨k,x⟩:Nat×iW)=>lV (bP p g) k x=lV (bP p g) n g/\Am (bP p g) x/\k<=n) (λ(⟨k,x⟩:Nat×iW)=>k) ?_ ?_
 ·refine ⟨⟨n,g⟩,?_,?_⟩;{exact ⟨rfl,hg,abd _⟩};refine eX cX ⟨obs rfl,obs rfl,tt⟩
 rintro ⟨k,x⟩ ⟨e,hx,hk⟩;have f:=hx.2;simp only [aZ]at f;refine sq (sq (rgs [CG.pure (.bool (nR (KF (bP p g) x).op))] rfl ?_ ?_));{have i:=JL (KF (bP p g) x).op;exact au};refine cd rfl (λc=>?_) (λc=>?_);{(have b:BX (bP p g) x=true:=by simp only [band]at c;exact c);(have hl:nR (KF (bP p g) x).op=true:=by have a:=b;rw [BX,abf]at a;exact a.2);have hi:=Ie hF hx.2;refine sk (bk (sq (sq (rg [] rfl ?_))));refine cd rfl (λa=>?_) (λa=>?_);{(have d:k=0:=by simp at a;omega);subst d;refine sg rfl (sg rfl ?_);refine rX ?_;refine aW hT rfl rfl rfl rfl rfl (ah ?_) rfl rfl rfl;rw [<- e,lV,aa2 b];exact gI _ _};(have d:0<k:=by simp at a;omega);obtain ⟨j,rfl⟩:∃ j,k=j+1:=⟨k - 1,by omega⟩;refine sk (sq (rg [] rfl ?_));refine drs [CG.pure (bV (lq x (KF (bP p g) x)))] rfl ?_ ?_;{have i:=Yi p (bP p g) x (KF (bP p g) x) hF hi hl hx.1 (by omega);exact au};refine ⟨⟨j,lq x (KF (bP p g) x)⟩,?_,?_,?_⟩;{rw [lV,aa2 b]at e;exact ⟨e,(Df hF hx hl).1,by omega⟩};{refine eX ⟨⟨rfl,_,rfl,ah (by rw [bK (by omega) (by omega)];simp)⟩,cq,cq,cq,tt⟩ ⟨obs rfl,obs rfl,tt⟩};(try simp only []);first | omega | grind};(have b:BX (bP p g) x=false:=by simp only [band]at c;exact c);refine xt (sq (rg [] rfl ?_));refine rX ?_;refine aW hT rfl rfl rfl rfl rfl (ah ?_) rfl rfl rfl;rw [<- e];cases k with| zero=>rw [lV,xw (by rw [b];decide)];rfl| succ j=>rw [lV,xw (by rw [b];decide)];rfl
def lM (p:ak) (i:Nat):List Int:=(List.range 8).map λk=>if k<i then (p.vars.getD k Jd).init else 0
theorem Bl (p:ak) (i:Nat):(lM p i).length=8:=by simp [lM]
theorem Ih {p:ak} {i:Nat} (h:i<8):(lM p i).set i (p.vars.getD i Jd).init=lM p (i+1):=by
 refine ae0 (by simp [lM]) λk b a=>?_;have hk:k<8:=by simpa [lM]using a
 rw [List.getElem_set];simp only [lM,ae1,aeN];split
 ·subst_vars;rw [aa2 (by omega)]
 by_cases e:k<i;{rw [aa2 e,aa2 (by omega)]};rw [xw e,xw (by omega)]
def live0:iW:={ go0 with status:=1}
def PX (p:ak) (n:Nat):cZ:={ st0 with vars:=lM p p.vars.length,gos:=[lV (aV p 0) n live0,go0,go0,go0,go0,go0],count:=1}
def dJ (p:ak) (n:Int):cZ×Int:=if fE p=false then (st0,3)else if ¬ (0<=n/\n<=4096)then (st0,1)else (PX p n.toNat,0)
theorem Yz {p:ak} (hp:qJ p):Am (aV p 0) live0:=⟨rfl,by have:=(hp.fn (aV p 0) (by rw [aV,aae,Y0 (show 0<p.funcs.length by have:=hp.funcs;omega)];exact acr _)).code;exact ⟨by decide,by show (0:Int)<_;omega⟩⟩
theorem Nv (p:ak) (n:Int):AC Tryz.prog T aH 101 [aj p,.int n] [] (.tup [encS (dJ p n).1,.int (dJ p n).2]) []:=by
 refine aX Tryz.func101 ?_;refine sg rfl (sq (sq (rgs [CG.pure (.bool (fE p))] rfl ?_ ?_)))
 ·have f:=DW p;exact au
 refine cd rfl (λc=>?_) (λc=>?_)
 ·(have a:fE p=false:=by simpa using c);refine sg rfl (rX ?_);exact oI hT rfl rfl rfl (ah (by rw [dJ,aa2 a];exact zeroS)) (by rw [dJ,aa2 a])
 (have a:fE p=true:=by simpa using c);have hp:=kJ a;refine sk (sq (sq (rgs [CG.pure (.bool (decide (0<=n/\n<=4096)))] rfl ?_ ?_)));{have f:=Ij n;exact au};refine cd rfl (λd=>?_) (λd=>?_);{(have hf:¬ (0<=n/\n<=4096):=by simp at d;omega);refine sg rfl (rX ?_);exact oI hT rfl rfl rfl (ah (by rw [dJ,xw (by simp [a]),aa2 hf];exact zeroS)) (by rw [dJ,xw (by simp [a]),aa2 hf])};(have hf:0<=n/\n<=4096:=by simpa using d);obtain ⟨k,rfl⟩:=aeV hf.1;have j:=hp.vars;(have g:(T 62).zero.put [4] (.int 1)=encS { st0 with count:=1,vars:=lM p 0}:=by rw [zeroS,xM];rfl);refine sk (sq (rg [] rfl ?_));refine sq (sq (rg [] rfl ?_));refine bk (WP.loop (α:=Nat) (λi=>aN [(1,.int k),(2,.rp 26 (aj p)),(4,.ptr (.s 4 0) 1 0 []),(6,.ptr (.s 6 0) 1 0 []),(19,rowP 116 Ez Jd p.vars),(20,.int p.vars.length),(21,.int i)] [(.s 4 0,.cells ⟨62,1,λ_=>(T 62).zero,0⟩),(.s 6 0,.cells ⟨62,1,λ_=>encS { st0 with count:=1,vars:=lM p i},0⟩)]) (λi=>i<=p.vars.length) (λi=>p.vars.length - i) ?_ ?_);{refine ⟨0,?_,?_⟩;{exact abq _};refine em [(.s 2 0,1)] ⟨sF,tt⟩ ⟨cq,rq,cq,cq,cq,cq,cq,tt⟩ ⟨obs rfl,obs rfl (hg:=q0 (ah g)),tt⟩};rintro i hi;refine sg rfl (sq ?_);refine cd rfl (λe=>?_) (λe=>?_);{(have b:i<p.vars.length:=by simp [-List.getD_eq_getElem?_getD]at e;omega);refine sk (sq (bk (sq (rgs [] rfl ?_ ?_))));{simp [-List.getD_eq_getElem?_getD,ay,under];omega};refine rgs [] rfl ?_ ?_;{simp [-List.getD_eq_getElem?_getD,ay,under];omega};refine rg [] rfl ⟨i+1,?_,?_,?_⟩;{exact b};{refine eX cX ⟨obs rfl,obs rfl (hg:=q0 (ah ((wz _ (by show _<(lM p i).length;rw [Bl];omega)).trans (by simp only [adu];rw [Ih (by omega)])))),tt⟩};(try simp only []);first | omega | grind};(have b:i=p.vars.length:=by simp [-List.getD_eq_getElem?_getD]at e;omega);subst b;(have h:(T 59).zero.put [0] (.int 1)=bV live0:=by rw [F9];exact gI _ _);refine xt (sq (rgs [CG.pure (bV (lV (aV p 0) k live0))] rfl ?_ ?_));{have f:=Gw p live0 k hp ⟨by decide,by have:=hp.funcs;show (0:Int)<_;omega⟩ (Yz hp) (by omega);rw [<- h]at f;exact au};refine sg rfl (rX ?_);refine oI hT rfl rfl rfl (ah ?_) (by rw [dJ,xw (by simp [a]),xw (by simp;omega)]);rw [dJ,xw (by simp [a]),xw (by simp;omega)];exact ng (by show 0<6;omega) rfl
def bZ (p:ak) (s:cZ) (g n:Int):cZ×Int :=
 if fE p=false then (st0,3)else if ¬ dF p s then (st0,4)else if ¬ ((0<=g/\g<6)/\(0<=n/\n<=4096))then (st0,1)else if s.count<=g then (st0,9)else
 if (goI s g).status=1\/(goI s g).status=5 then ({ s with gos:=s.gos.set g.toNat (lV (bP p (goI s g)) n.toNat { goI s g with status:=1}) },0)else (s,0)
theorem UC (p:ak) (s:cZ) (g n:Int) (t:oh s):AC Tryz.prog T aH 234 [aj p,encS s,.int g,.int n] [] (.tup [encS (bZ p s g n).1,.int (bZ p s g n).2]) []:=by
 refine aX Tryz.func234 ?_;refine sg rfl (sq (sq ?_));refine WP.ent (st':=aN [(4,.rp 26 (aj p)),(2,.int g),(3,.int n),(5,.ptr (.s 5 0) 1 0 []),(8,.ptr (.s 8 0) 1 0 [])] [(.s 5 0,.cells ⟨62,1,λ_=>encS s,0⟩),(.s 8 0,.cells ⟨62,1,λ_=>(T 62).zero,0⟩)]) (em [(.s 4 0,1)] ⟨sF,tt⟩ ⟨rq,cq,cq,cq,cq,tt⟩ ⟨obs rfl,obs rfl,tt⟩) ?_;refine rgs [CG.pure (.bool (fE p))] rfl ?_ ?_
 ·have m:=DW p;exact au
 refine cd rfl (λo=>?_) (λo=>?_)
 ·(have j:fE p=false:=by simpa using o);refine sg rfl (rX ?_);exact oI hT rfl rfl rfl (ah (by rw [bZ,aa2 j];exact zeroS)) (by rw [bZ,aa2 j])
 (have j:fE p=true:=by simpa using o);have hp:=kJ j;(have hr0:¬ fE p=false:=by simp [j]);refine sk (sq (sq (rgs [CG.pure (.bool (decide (dF p s)))] rfl ?_ ?_)));{have m:=Nk p s t;exact au};refine cd rfl (λq=>?_) (λq=>?_);{(have l:¬ dF p s:=by simpa using q);refine sg rfl (rX ?_);exact oI hT rfl rfl rfl (ah (by rw [bZ,xw hr0,aa2 l];exact zeroS)) (by rw [bZ,xw hr0,aa2 l])};(have l:dF p s:=by simpa using q);have b:¬ ¬ dF p s:=λh=>h l;refine sk (sq (sq (rgs [CG.pure (.bool (decide (0<=n/\n<=4096)))] rfl ?_ ?_)));{have m:=Ij n;exact au};refine cd rfl (λf=>?_) (λf=>?_);{(have i:¬ ((0<=g/\g<6)/\(0<=n/\n<=4096)):=by simp only [fG]at f;simp at f;omega);refine sg rfl (rX ?_);exact oI hT rfl rfl rfl (ah (by rw [bZ,xw hr0,xw b,aa2 i];exact zeroS)) (by rw [bZ,xw hr0,xw b,aa2 i])};(have i:(0<=g/\g<6)/\(0<=n/\n<=4096):=by simp only [fG]at f;simp at f;omega);have c:¬ ¬ ((0<=g/\g<6)/\(0<=n/\n<=4096)):=λh=>h i;refine sk (sq (sq (rg [] rfl ?_)));refine cd rfl (λr=>?_) (λr=>?_);{(have hc:s.count<=g:=by simpa using r);refine sg rfl (rX ?_);exact oI hT rfl rfl rfl (ah (by rw [bZ,xw hr0,xw b,xw c,aa2 hc];exact zeroS)) (by rw [bZ,xw hr0,xw b,xw c,aa2 hc])};(have hc:¬ s.count<=g:=by simpa using r);have v:=t.gos;refine sk (sq (sq (rgs [] rfl ?_ ?_)));{simp [-List.getD_eq_getElem?_getD,ay,under];omega};refine sg rfl (cd rfl (λa=>?_) (λa=>?_));{(have d:(goI s g).status=1\/(goI s g).status=5:=by simp only [fG]at a;simp [-List.getD_eq_getElem?_getD]at a;exact a);have e:=(l.2.2.2.2.1 g.toNat (by omega)).1 (by omega);have u:(bV (goI s g)).put [0] (.int 1)=bV { goI s g with status:=1}:=gI _ _;obtain ⟨k,rfl⟩:=aeV i.2.1;refine sg rfl (rgs [CG.pure (bV (lV (bP p (goI s g)) k { goI s g with status:=1}))] rfl ?_ ?_);{have m:=Gw p { goI s g with status:=1} k hp e.2.1 ⟨gZ t _,e.2.2.1⟩ (by omega);rw [<- u]at m;exact au};refine sg rfl (rX ?_);refine oI hT rfl rfl rfl (ah ?_) (by rw [bZ,xw hr0,xw b,xw c,xw hc,aa2 d]);rw [bZ,xw hr0,xw b,xw c,xw hc,aa2 d];exact ng (by omega) (Td _ _)};(have d:¬ ((goI s g).status=1\/(goI s g).status=5):=by simp only [fG]at a;simp [-List.getD_eq_getElem?_getD]at a;exact λh=>h.elim a.1 a.2);refine sk (sq (rg [] rfl ?_));refine rX ?_;refine oI hT rfl rfl rfl (ah ?_) (by rw [bZ,xw hr0,xw b,xw c,xw hc,xw d]);rw [bZ,xw hr0,xw b,xw c,xw hc,xw d];rfl
theorem dA {α:Type} (l:List α) (x:α):(l++[x]).length=l.length+1:=by simp
def mG (g:iW):Bool:=g.status==1||g.status==2
def lu (s:cZ):Nat->List Int
 | 0=>[]
 | k+1=>lu s k++(if mG (s.gos.getD k go0)=true then [(k:Int)]else [])
abbrev iP (s:cZ):List Int:=lu s 6
theorem xY (s:cZ):∀ k,(lu s k).length<=k
 | 0=>abd _
 | k+1=>by have:=xY s k;rw [lu,adC];split <;> simp <;> omega
theorem xX {s:cZ} {x:Int}:∀ {k:Nat},x∈lu s k ↔ ∃ j:Nat,j<k/\x=j/\mG (s.gos.getD j go0)=true
 | 0=>by simp [lu]
 | k+1=>by rw [lu,ae4,xX];constructor;{rintro (⟨j,c,a,b⟩ | h);{exact ⟨j,by omega,a,b⟩};split at h;{rename_i hb;exact ⟨k,by omega,by simpa using h,hb⟩};cases h};rintro ⟨j,c,a,b⟩;by_cases e:j=k;{subst e;exact .inr (by rw [aa2 b];simpa using a)};exact .inl ⟨j,by omega,a,b⟩
theorem aas (s:cZ):AC Tryz.prog T aH 115 [encS s] [] (ints false (iP s)) []:=by
 refine aX Tryz.func115 ?_;refine sg rfl (sg rfl ?_);refine sq (sq (rg [] rfl ?_));refine bk (WP.loop (α:=Nat) (λv=>aN [(3,.own (.s 23 0) (lu s v).length 0 (lu s v).length none),(7,yT 60 6 bV go0 s.gos),(8,.int v)] [(.s 23 0,uG 3 .i64 (lu s v))]) (λv=>v<=6) (λv=>6 - v) ?_ ?_)
 ·refine ⟨0,?_,?_⟩;{omega};refine eX ⟨⟨rfl,_,rfl,iK⟩,cq,cq,tt⟩ ⟨⟨λ_ _=>rfl,.inr ⟨rfl,3,_,rfl,by decide⟩⟩,tt⟩
 rintro v f;refine sg rfl (sq ?_);refine cd rfl (λc=>?_) (λc=>?_);{(have b:v<6:=by simp [-List.getD_eq_getElem?_getD]at c;omega);have hlen:=xY s v;refine sk (sq (bk (sq (rgs [] rfl ?_ ?_))));{simp [-List.getD_eq_getElem?_getD,ay,under];omega};refine sg rfl (cd rfl (λa=>?_) (λa=>?_));{(have hb:mG (s.gos.getD v go0)=true:=by simp only [fG,adu]at a;exact a);refine rgs [] rfl ?_ ?_;{have d:(T 3).bytes=8:=rfl;simp [ay,under,d];omega};refine rg [] rfl ⟨v+1,?_,?_,?_⟩;{omega};{refine eX ⟨⟨rfl,_,rfl,ah (by rw [lu,aa2 hb,dA])⟩,cq,cq,tt⟩ ⟨sO rfl rfl (by rw [lu,aa2 hb,dA]) rfl rfl (by rw [lu,aa2 hb];exact app1 (z:=(T 3).zero) rfl (λq e=>rfl)),tt⟩};(try simp only []);first | omega | grind};(have hb:mG (s.gos.getD v go0)=false:=by simp only [fG,adu]at a;exact a);refine sk (rg [] rfl ?_);refine ⟨v+1,?_,?_,?_⟩;{omega};{refine eX ⟨⟨rfl,_,rfl,ah (by rw [lu,xw (by rw [hb];decide),adY])⟩,cq,cq,tt⟩ ⟨sO rfl rfl (by rw [lu,xw (by rw [hb];decide),adY]) rfl rfl (λq e=>by rw [lu,xw (by rw [hb];decide),adY]),tt⟩};(try simp only []);first | omega | grind};(have b:v=6:=by simp [-List.getD_eq_getElem?_getD]at c;omega);subst b;refine xt (sq (rg [] rfl ?_));refine rX ?_;refine aJ hT [(.s 23 0,(iP s).length)] (ts:=[(2,ints false (iP s))]) (l:=[ints false (iP s)]) ⟨⟨_,rfl,abd _⟩,tt⟩ ⟨⟨rfl,_,rfl,?_⟩,tt⟩ trivial rfl rfl rfl;exact iw rfl rfl rfl (λh=>by cases h) (by simp [dW,aS]) (λq e=>by rw [ada];exact ⟨rfl,vU.refl _⟩)
theorem Gt (s:cZ) (g:Int) (hg:0<=g/\g<6):AC Tryz.prog T aH 158 [encS s,.int g] [] (.bool (mG (goI s g))) []:=by
 refine aX Tryz.func158 ?_;refine sg rfl (sq ?_);refine WP.ent (st':=aN [(2,.rp 62 (encS s)),(1,.int g)] []) (em [(.s 2 0,1)] ⟨sF,tt⟩ ⟨rq,cq,tt⟩ trivial) ?_;refine rgs [] rfl ?_ ?_
 ·simp [-List.getD_eq_getElem?_getD,ay,under];omega
 refine rX ?_;exact fin1 hT (by rfl) (by rw [fG];rfl)
structure dZ (p:ak) (s:cZ) (g:Int):Prop where
 ok:oh s
 valid:dF p s
 live:mG (goI s g)=true
 pos:0<=g/\g<6
theorem dZ.prog {p:ak} {s:cZ} {g:Int} (h:dZ p s g):qJ p:=kJ h.valid.1
theorem dZ.lt {p:ak} {s:cZ} {g:Int} (h:dZ p s g):g<s.count:=by
 rcases Int.lt_or_le g s.count with b | b
 ·exact b
 have c:=(h.valid.2.2.2.2.1 g.toNat (by have:=h.pos;omega)).2 (by have:=h.pos;omega);have a:=h.live;unfold goI at a;rw [c]at a;cases a
theorem dZ.fit {p:ak} {s:cZ} {g:Int} (h:dZ p s g):oW p (goI s g):=(h.valid.2.2.2.2.1 g.toNat (by have:=h.pos;omega)).1 (by have:=h.pos;have:=h.lt;omega)
theorem dZ.fn {p:ak} {s:cZ} {g:Int} (h:dZ p s g):xk p (bP p (goI s g)):=h.prog.fn _ (by
 have:=h.fit.2.1;unfold aZ at this;rw [bP,aae,Y0 (show (goI s g).func.toNat<p.funcs.length by omega)];exact acr _)
theorem dZ.ins {p:ak} {s:cZ} {g:Int} (h:dZ p s g):DN p (bP p (goI s g)) (insOf p (goI s g)):=Ie h.fn h.fit.2.2.1
theorem OQ {p:ak} {s:cZ} {g:Int}:∀ {c:Nat},uO p s g c≠0 -> ∃ k,k<c/\k<p.chans.length/\(bI s k).offer≠0/\(bI s k).frm=g
 | c+1,h=>by rw [uO]at h;split at h;{rename_i e;exact ⟨c,by omega,e.1,e.2.1,e.2.2⟩};obtain ⟨k,b,a⟩:=OQ (c:=c) (by simpa using h);exact ⟨k,by omega,a⟩
theorem dZ.wait {p:ak} {s:cZ} {g:Int} (h:dZ p s g) (hw:(goI s g).status=2):(insOf p (goI s g)).op=58 /\ ∃ k:Nat,k<p.chans.length/\(insOf p (goI s g)).a=k/\(bI s k).offer≠0/\(bI s k).frm=g:=by
 have hp:=h.pos;have i:=h.valid.2.2.2.2.2.2 g.toNat (by omega) hw;obtain ⟨k,j,d,e,f⟩:=OQ (c:=4) (by rw [i];decide);have b:=((h.valid.2.2.2.2.2.1 k j).1 d).2.2.2.2.2.2 e;rw [f]at b;rw [aeI hp.1]at b;exact ⟨b.2.2.2.1,k,d,b.2.2.2.2,e,by rw [f];exact aeI hp.1⟩
def aU (p:ak) (s:cZ) (g:Int):iG:=if (goI s g).status=2 then { insOf p (goI s g)with op:=66}else insOf p (goI s g)
theorem Vl (x:iG) (n:Int):(aQ x).put [0] (.int n)=aQ { x with op:=n}:=dh (abZ rfl)
theorem Uh (p:ak) (s:cZ) (g:Int) (h:dZ p s g):AC Tryz.prog T aH 131 [aj p,encS s,.int g] [] (aQ (aU p s g)) []:=by
 refine aX Tryz.func131 ?_;refine sg rfl (sq ?_);refine WP.ent (st':=aN [(3,.rp 26 (aj p)),(4,.rp 62 (encS s)),(2,.int g),(6,.ptr (.s 6 0) 1 0 [])] [(.s 6 0,.cells ⟨120,1,λ_=>(T 120).zero,0⟩)]) (em [(.s 3 0,1),(.s 4 0,1)] ⟨sF,sF,tt⟩ ⟨rq,rq,cq,cq,tt⟩ ⟨obs rfl,tt⟩) ?_;refine drs [] rfl ?_ ?_
 ·have b:=h.pos;have a:=h.fit.2.1;have c:=h.fit.2.2.1;simp only [aZ,bP,goI]at a c;simp [-List.getD_eq_getElem?_getD,ay,under];omega
 refine sq (sq (rgs [] rfl ?_ ?_))
 ·have b:=h.pos;simp [-List.getD_eq_getElem?_getD,ay,under];omega
 refine cd rfl (λa=>?_) (λa=>?_)
 ·(have hw:(goI s g).status=2:=by simp [-List.getD_eq_getElem?_getD]at a;exact a);refine rg [] rfl (sg rfl ?_);refine rX ?_;exact aW hT rfl rfl rfl rfl rfl (ah (by rw [aU,aa2 hw];exact Vl _ _)) rfl rfl rfl
 (have hw:¬ (goI s g).status=2:=by simp [-List.getD_eq_getElem?_getD]at a;exact a);refine sk (sq (rg [] rfl ?_));refine rX ?_;exact aW hT rfl rfl rfl rfl rfl (ah (by rw [aU,xw hw];rfl)) rfl rfl rfl
def jV (p:ak) (s:cZ) (c:Int):Bool:=(bW s c).closed||(decide (p.chans.getD c.toNat 0>0)&&decide ((bW s c).len<p.chans.getD c.toNat 0))||(p.chans.getD c.toNat 0==0&&(bW s c).offer==0)
def Cj (s:cZ) (c:Int):Bool:=decide ((bW s c).len>0)||(bW s c).closed||(bW s c).offer==1
theorem NM (p:ak) (s:cZ) (c:Int) (hc:aZ c p.chans.length) (a:p.chans.length<=4):AC Tryz.prog T aH 166 [aj p,encS s,.int c] [] (.bool (jV p s c)) []:=by
 refine aX Tryz.func166 ?_;unfold aZ at hc;refine sg rfl (sq ?_);refine WP.ent (st':=aN [(3,.rp 26 (aj p)),(4,.rp 62 (encS s)),(2,.int c)] []) (em [(.s 3 0,1),(.s 4 0,1)] ⟨sF,sF,tt⟩ ⟨rq,rq,cq,tt⟩ trivial) ?_;refine rgs [] rfl ?_ ?_
 ·simp [-List.getD_eq_getElem?_getD,ay,under];omega
 refine sq (drs [] rfl ?_ ?_)
 ·exact au
 refine rX ?_;exact fin1 hT (by rfl) (by simp only [fG,band];rfl)
theorem EL (s:cZ) (c:Int) (hc:0<=c/\c<4):AC Tryz.prog T aH 167 [encS s,.int c] [] (.bool (Cj s c)) []:=by
 refine aX Tryz.func167 ?_;refine sg rfl (sq ?_);refine WP.ent (st':=aN [(2,.rp 62 (encS s)),(1,.int c)] []) (em [(.s 2 0,1)] ⟨sF,tt⟩ ⟨rq,cq,tt⟩ trivial) ?_;refine rgs [] rfl ?_ ?_
 ·simp [-List.getD_eq_getElem?_getD,ay,under];omega
 refine sg rfl (rX ?_);exact fin1 hT (by rfl) (by simp only [fG,band];rfl)
def jL (s:cZ) (g k:Int):Bool:=decide (0<=k/\k<s.count/\k≠g)
theorem Gn (s:cZ) (g k:Int):AC Tryz.prog T aH 220 [encS s,.int g,.int k] [] (.bool (jL s g k)) []:=by
 refine aX Tryz.func220 ?_;refine sg rfl (sg rfl ?_);refine rX ?_;refine fin1 hT (by rfl) ?_;simp only [band];rw [acs,jL];simp;omega
def jd (p:ak) (s:cZ) (g:Int):Bool :=
 if (aU p s g).op=54 then jD s (aU p s g).a==bn (goI s g) (aU p s g).b else if (aU p s g).op=55 then mJ s (aU p s g).a==0 else if (aU p s g).op=58 then jV p s (aU p s g).a else
 if (aU p s g).op=59 then Cj s (aU p s g).b else if (aU p s g).op=66 then (bW s (aU p s g).a).offer != 1 else
 if (aU p s g).op=63 then (!jL s g (bn (goI s g) (aU p s g).a) || !mG (goI s (bn (goI s g) (aU p s g).a)))else yQ (aU p s g).op
structure AtP (p:ak) (s:cZ) (g:Int):Prop where
 await:(aU p s g).op=54->(0<=(aU p s g).a/\(aU p s g).a<8)/\(0<=(aU p s g).b/\(aU p s g).b<8)
 lock:(aU p s g).op=55\/(aU p s g).op=56->0<=(aU p s g).a/\(aU p s g).a<4
 send:(aU p s g).op=58\/(aU p s g).op=60\/(aU p s g).op=66->aZ (aU p s g).a p.chans.length
 recv:(aU p s g).op=59->aZ (aU p s g).b p.chans.length
 join:(aU p s g).op=63\/(aU p s g).op=65->0<=(aU p s g).a/\(aU p s g).a<8
 ins:(aU p s g).op≠66->aU p s g=insOf p (goI s g)
theorem dZ.at {p:ak} {s:cZ} {g:Int} (h:dZ p s g):AtP p s g:=by
 have hp:=h.prog;have m:=hp.vars;have hl:=hp.locks;have l:=h.fn.regs;have hi:=h.ins;by_cases hw:(goI s g).status=2
 ·obtain ⟨i,k,j,c,_⟩:=h.wait hw;(have e:(aU p s g).op=66:=by rw [aU,aa2 hw]);(have f:(aU p s g).a=k:=by rw [aU,aa2 hw];exact c);refine ⟨λh=>by omega,λh=>by omega,λ_=>?_,λh=>by omega,λh=>by omega,λh=>absurd e h⟩;unfold aZ;omega
 (have e:aU p s g=insOf p (goI s g):=by rw [aU,xw hw]);(have b:(insOf p (goI s g)).op≠66:=by intro d;have:=hi.op;rw [d]at this;revert this;decide);rw [<- e]at hi b;refine ⟨λh=>?_,λh=>?_,λh=>?_,λh=>(hi.recv h).2.1,λh=>?_,λ_=>e⟩;{have:=hi.store (.inr h);unfold jc aZ at this;omega};{have:=hi.lock h;omega};{rcases h with h | h | h;{exact (hi.send h).1};{exact hi.close h};exact absurd h b};have:=hi.const (by omega);unfold jc at this;omega
theorem Us (p:ak) (s:cZ) (g:Int) (h:dZ p s g):AC Tryz.prog T aH 164 [aj p,encS s,.int g] [] (.bool (jd p s g)) []:=by
 refine aX Tryz.func164 ?_;have l:=h.at;have o:=h.pos;have n:=h.prog.chans;have t:=h.valid.2.1.2;refine sg rfl (sq ?_);refine WP.ent (st':=aN [(3,.rp 26 (aj p)),(4,.rp 62 (encS s)),(2,.int g)] []) (em [(.s 3 0,1),(.s 4 0,1)] ⟨sF,sF,tt⟩ ⟨rq,rq,cq,tt⟩ trivial) ?_;refine rgs [CG.pure (aQ (aU p s g))] rfl ?_ ?_
 ·have m:=Uh p s g h;exact au
 refine sq (WP.ent (st':=aN [(7,.rp 120 (aQ (aU p s g))),(2,.int g),(3,.rp 26 (aj p)),(4,.rp 62 (encS s))] []) (em [(.s 7 0,1)] ⟨sF,tt⟩ ⟨rq,cq,cq,cq,tt⟩ trivial) ?_);refine rgs [] rfl ?_ ?_
 ·simp [-List.getD_eq_getElem?_getD,ay,under];omega
 refine sq (sq ?_);refine WP.ent (st':=aN [(8,.rp 52 (lC 52 8 .i64 (goI s g).regs)),(2,.int g),(3,.rp 26 (aj p)),(4,.rp 62 (encS s)),(7,.rp 120 (aQ (aU p s g)))] []) (em [(.s 8 0,1)] ⟨sF,tt⟩ ⟨rq,cq,cq,cq,cq,tt⟩ trivial) ?_;refine rg [] rfl (bk (sq (rg [] rfl ?_)));refine cd rfl (λn=>?_) (λn=>?_)
 ·(have c:(aU p s g).op=54:=by simpa using n);have:=l.await c;refine sq (drs [] rfl ?_ ?_);{simp [-List.getD_eq_getElem?_getD,ay,under];omega};exact WP.ret (fin1 hT (by rfl) (by rw [jd,aa2 c]))
 (have c:(aU p s g).op≠54:=by simpa using n);refine sg rfl (cd rfl (λo=>?_) (λo=>?_));{(have d:(aU p s g).op=55:=by simpa using o);have:=l.lock (.inl d);refine sq (rgs [] rfl ?_ ?_);{simp [-List.getD_eq_getElem?_getD,ay,under];omega};exact WP.ret (fin1 hT (by rfl) (by rw [jd,xw c,aa2 d]))};(have d:(aU p s g).op≠55:=by simpa using o);refine sg rfl (cd rfl (λq=>?_) (λq=>?_));{(have f:(aU p s g).op=58:=by simpa using q);refine sq (rgs [CG.pure (.bool (jV p s (aU p s g).a))] rfl ?_ ?_);{have m:=NM p s (aU p s g).a (l.send (.inl f)) h.prog.chans;exact au};exact WP.ret (fin1 hT (by rfl) (by rw [jd,xw c,xw d,aa2 f]))};(have f:(aU p s g).op≠58:=by simpa using q);refine sg rfl (cd rfl (λi=>?_) (λi=>?_));{(have e10:(aU p s g).op=59:=by simpa using i);have hb:=l.recv e10;unfold aZ at hb;refine sq (rgs [CG.pure (.bool (Cj s (aU p s g).b))] rfl ?_ ?_);{have m:=EL s (aU p s g).b (by have:=h.prog.chans;omega);exact au};exact WP.ret (fin1 hT (by rfl) (by rw [jd,xw c,xw d,xw f,aa2 e10]))};(have e10:(aU p s g).op≠59:=by simpa using i);refine sg rfl (cd rfl (λj=>?_) (λj=>?_));{(have e12:(aU p s g).op=66:=by simpa using j);have hb:=l.send (.inr (.inr e12));unfold aZ at hb;have:=h.prog.chans;refine sq (rgs [] rfl ?_ ?_);{simp [-List.getD_eq_getElem?_getD,ay,under];omega};exact WP.ret (fin1 hT (by rfl) (by rw [jd,xw c,xw d,xw f,xw e10,aa2 e12]))};(have e12:(aU p s g).op≠66:=by simpa using j);refine sg rfl (cd rfl (λk=>?_) (λk=>?_));{(have e14:(aU p s g).op=63:=by simpa using k);have hb:=l.join (.inl e14);refine sq (drs [CG.pure (.bool (jL s g (bn (goI s g) (aU p s g).a))),CG.pure (.bool (mG (goI s (bn (goI s g) (aU p s g).a))))] rfl ?_ ?_);{have m:=Gn s g (bn (goI s g) (aU p s g).a);have r:jL s g (bn (goI s g) (aU p s g).a)=true->_:=λe=>Gt s (bn (goI s g) (aU p s g).a) (by simp only [jL,acf]at e;omega);simp only [ay,under,CG.pure];(repeat' with_reducible refine And.intro ?_ ?_);(all_goals (try with_reducible intros));all_goals (first | exact trivial | assumption | omega | exact m | (refine r ?_;simp_all;done) | (simp_all;done))};exact WP.ret (fin1 hT (by rfl) (by rw [jd,xw c,xw d,xw f,xw e10,xw e12,aa2 e14,fG]))};(have e14:(aU p s g).op≠63:=by simpa using k);refine sk (sq (rgs [CG.pure (.bool (yQ (aU p s g).op))] rfl ?_ ?_));{have m:=Ot (aU p s g).op;exact au};exact WP.ret (fin1 hT (by rfl) (by rw [jd,xw c,xw d,xw f,xw e10,xw e12,xw e14]))
def kL (l:List Int) (k:Int) (b:Bool):List Int:=if b then l++[k]else l
def TF (l:List Int):List Ob:=[.cells ⟨23,1,λ_ => .own (.b 1) l.length 0 l.length none,0⟩,uG 3 .i64 l]
theorem TD (l:List Int) (k:Int) (b:Bool) (hl:l.length<=100):AC Tryz.prog T aH 165 [.int k,.bool b,.ptr (.b 0) 1 0 []] [.cells ⟨23,1,λ_ => .own (.b 1) l.length 0 l.length none,0⟩,uG 3 .i64 l] (.tup []) [.cells ⟨23,1,λ_ => .own (.b 1) (kL l k b).length 0 (kL l k b).length none,0⟩,uG 3 .i64 (kL l k b)]:=by
 refine aX Tryz.func165 ?_;refine sg rfl (cd rfl (λa=>?_) (λa=>?_))
 ·refine rgs [] rfl ?_ ?_
  ·have c:(T 3).bytes=8:=rfl;simp [ay,under,c];omega
  change Fin ..
  first
  | (refine aJ hT [] (ts:=[]) (l:=[]) trivial trivial ⟨obs rfl (hg:=q0 (ah (by rw [kL,aa2 a,dA];rfl))),sO rfl rfl (by rw [kL,aa2 a,dA]) rfl rfl (by rw [kL,aa2 a];exact app1 (z:=(T 3).zero) rfl (λq d=>rfl)),tt⟩ rfl rfl rfl)
  | (
   have e:kL l k b=l:=by rw [kL,a];rfl
   rw [e]
   exact aJ hT [] (ts:=[]) (l:=[]) trivial trivial ⟨obs rfl,sO rfl rfl rfl rfl rfl (λq d=>rfl),tt⟩ rfl rfl rfl)
 ·refine sk ?_
  change Fin ..
  first
  | (refine aJ hT [] (ts:=[]) (l:=[]) trivial trivial ⟨obs rfl (hg:=q0 (ah (by rw [kL,aa2 a,dA];rfl))),sO rfl rfl (by rw [kL,aa2 a,dA]) rfl rfl (by rw [kL,aa2 a];exact app1 (z:=(T 3).zero) rfl (λq d=>rfl)),tt⟩ rfl rfl rfl)
  | (
   have e:kL l k b=l:=by rw [kL,a];rfl
   rw [e]
   exact aJ hT [] (ts:=[]) (l:=[]) trivial trivial ⟨obs rfl,sO rfl rfl rfl rfl rfl (λq d=>rfl),tt⟩ rfl rfl rfl)
def wZ (p:ak) (s:cZ) (c:zK):Bool:=(c.send&&jV p s c.chan)||(!c.send&&Cj s c.chan)
def fU (p:ak) (s:cZ) (q:rZ):Nat->List Int
 | 0=>[]
 | k+1=>kL (fU p s q k) k (wZ p s (aA q k))
theorem yC (p:ak) (s:cZ) (q:rZ):∀ k,(fU p s q k).length<=k
 | 0=>abd _
 | k+1=>by have:=yC p s q k;rw [fU,kL];split <;> simp <;> omega
abbrev bJ (p:ak) (s:cZ) (g:Int):rZ:=aO (bP p (goI s g)) (aU p s g).a.toNat
def iR (p:ak) (s:cZ) (g:Int):List Int :=
 if (aU p s g).op≠61 then (if jd p s g then [0]else [])else
 kL (fU p s (bJ p s g) (bJ p s g).cases.length) (bJ p s g).cases.length ((fU p s (bJ p s g) (bJ p s g).cases.length).length==0&&(bJ p s g).els != -1)
theorem dZ.sel {p:ak} {s:cZ} {g:Int} (h:dZ p s g) (e:(aU p s g).op=61):aZ (aU p s g).a (bP p (goI s g)).sels.length/\aaY p (bP p (goI s g)) (bJ p s g):=by
 have b:=h.at.ins (by rw [e];decide);have c:aZ (aU p s g).a (bP p (goI s g)).sels.length:=by rw [b];exact h.ins.sel (by rw [<- b];exact e)
 refine ⟨c,?_⟩;unfold aZ at c;unfold bJ aO;rw [aae,Y0 (show (aU p s g).a.toNat<(bP p (goI s g)).sels.length by omega)];exact h.fn.sel _ (acr _)
theorem I7 {p:ak} {s:cZ} {g:Int} (h:dZ p s g):(iR p s g).length<=5:=by
 unfold iR;split
 ·split <;> simp
 rename_i e;have:=(h.sel (by simpa using e)).2.len;have a:=yC p s (bJ p s g) (bJ p s g).cases.length;rw [kL];split <;> simp [-List.getD_eq_getElem?_getD] <;> omega
theorem Uk (p:ak) (s:cZ) (g:Int) (h:dZ p s g):AC Tryz.prog T aH 116 [aj p,encS s,.int g] [] (ints false (iR p s g)) []:=by
 refine aX Tryz.func116 ?_;have h6:=h.pos;have v:=h.prog.chans;refine sg rfl (sq ?_);refine WP.ent (st':=aN [(3,.rp 26 (aj p)),(4,.rp 62 (encS s)),(2,.int g)] []) (em [(.s 3 0,1),(.s 4 0,1)] ⟨sF,sF,tt⟩ ⟨rq,rq,cq,tt⟩ trivial) ?_;refine rgs [CG.pure (aQ (aU p s g))] rfl ?_ ?_
 ·have n:=Uh p s g h;exact au
 refine sq (sq ?_);refine WP.ent (st':=aN [(7,.rp 120 (aQ (aU p s g))),(2,.int g),(3,.rp 26 (aj p)),(4,.rp 62 (encS s))] []) (em [(.s 7 0,1)] ⟨sF,tt⟩ ⟨rq,cq,cq,cq,tt⟩ trivial) ?_;refine rg [] rfl (cd rfl (λo=>?_) (λo=>?_))
 ·(have a:(aU p s g).op≠61:=by simpa using o);refine sq (sq (rgs [CG.pure (.bool (jd p s g))] rfl ?_ ?_));{have n:=Us p s g h;exact au};refine cd rfl (λr=>?_) (λr=>?_);{refine sg rfl (rX ?_);refine aJ hT [] (ts:=[(6,ints false (iR p s g))]) (l:=[ints false (iR p s g)]) trivial ⟨⟨rfl,_,rfl,?_⟩,tt⟩ trivial rfl rfl rfl;(have e:iR p s g=[0]:=by rw [iR,aa2 a,aa2 r]);rw [e];exact wW (λh=>by cases h) (λi hi=>by obtain rfl:i=0:=Nat.lt_one_iff.1 hi;rfl)};refine sk (sq (rg [] rfl ?_));refine rX ?_;refine aJ hT [] (ts:=[(6,ints false (iR p s g))]) (l:=[ints false (iR p s g)]) trivial ⟨⟨rfl,_,rfl,?_⟩,tt⟩ trivial rfl rfl rfl;(have e:iR p s g=[]:=by rw [iR,aa2 a,xw (by rw [r];decide)]);rw [e];exact eP (by decide)
 (have a:(aU p s g).op=61:=by simpa using o);have f:=h.sel a;have a1:=f.2.len;have u:=f.1;have t:=h.fit.2.1;refine sk (sq (rg [] rfl ?_));refine sq (drs [] rfl ?_ ?_);{simp only [aZ,bP,goI]at u t;simp [-List.getD_eq_getElem?_getD,ay,under];omega};refine sq (WP.ent (st':=aN [(9,.rp 103 (gB (bJ p s g))),(3,.rp 26 (aj p)),(4,.rp 62 (encS s)),(8,.ptr (.s 8 0) 1 0 [])] [(.s 8 0,.cells ⟨23,1,λ_ => .nils,0⟩)]) (em [(.s 9 0,1)] ⟨sF,tt⟩ ⟨rq,cq,cq,cq,tt⟩ ⟨obs rfl,tt⟩) ?_);refine rg [] rfl (sq (sq (rg [] rfl ?_)));refine bk (WP.loop (α:=Nat) (λk=>aN [(3,.rp 26 (aj p)),(4,.rp 62 (encS s)),(8,.ptr (.s 8 0) 1 0 []),(9,.rp 103 (gB (bJ p s g))),(10,.clo 165 [.ptr (.s 8 0) 1 0 []]),(41,rowP 215 pz DC (bJ p s g).cases),(42,.int (bJ p s g).cases.length),(43,.int k)] [(.s 8 0,.cells ⟨23,1,λ_ => .own (.s 99 0) (fU p s (bJ p s g) k).length 0 (fU p s (bJ p s g) k).length none,0⟩),(.s 99 0,uG 3 .i64 (fU p s (bJ p s g) k))]) (λk=>k<=(bJ p s g).cases.length) (λk=>(bJ p s g).cases.length - k) ?_ ?_);{refine ⟨0,?_,?_⟩;{exact abq _};refine eX cX ⟨obs rfl (hg:=q0 iK),⟨λ_ _=>rfl,.inr ⟨rfl,3,_,rfl,by decide⟩⟩,tt⟩};rintro k hk;have z:=yC p s (bJ p s g) k;refine sg rfl (sq ?_);refine cd rfl (λc=>?_) (λc=>?_);{(have b:k<(bJ p s g).cases.length:=by simp [-List.getD_eq_getElem?_getD]at c;omega);have w:=f.2.case (aA (bJ p s g) k) (by unfold aA;rw [aae,Y0 b];exact acr _);have j:=w.chan;refine sk (sq (bk (sq (rgs [] rfl ?_ ?_))));{simp [-List.getD_eq_getElem?_getD,ay,under];omega};refine rgs [CG.pure (.bool (jV p s (aA (bJ p s g) k).chan)),CG.pure (.bool (Cj s (aA (bJ p s g) k).chan)),⟨true,[.s 8 0,.s 99 0],.tup [],TF (kL (fU p s (bJ p s g) k) k (wZ p s (aA (bJ p s g) k)))⟩] rfl ?_ ?_;{have n:=NM p s (aA (bJ p s g) k).chan j v;have a0:=EL s (aA (bJ p s g) k).chan (by unfold aZ at j;omega);have d:=TD (fU p s (bJ p s g) k) k (wZ p s (aA (bJ p s g) k)) (by omega);(have e:(bif (bif (aA (bJ p s g) k).send then jV p s (aA (bJ p s g) k).chan else false)then true else (bif !(aA (bJ p s g) k).send then Cj s (aA (bJ p s g) k).chan else false))=wZ p s (aA (bJ p s g) k):=by simp only [fG,band];rfl);have x:jm [.s 8 0,.s 99 0] [.cells ⟨23,1,λ_ => .own (.s 99 0) (fU p s (bJ p s g) k).length 0 (fU p s (bJ p s g) k).length none,0⟩,uG 3 .i64 (fU p s (bJ p s g) k)]:=⟨λ_ _=>rfl,λ_ _=>rfl,tt⟩;have m:jm (bs 2) (TF (kL (fU p s (bJ p s g) k) k (wZ p s (aA (bJ p s g) k)))):=⟨λ_ _=>rfl,λ_ _=>rfl,tt⟩;rw [<- e]at d m ⊢;exact au};refine rg [] rfl ⟨k+1,?_,?_,?_⟩;{exact b};{refine eX cX ⟨obs rfl,sO rfl rfl rfl rfl rfl (λq n=>rfl),tt⟩};(try simp only []);first | omega | grind};(have b:k=(bJ p s g).cases.length:=by simp [-List.getD_eq_getElem?_getD]at c;omega);subst b;refine xt (sq (rgs [⟨true,[.s 8 0,.s 99 0],.tup [],TF (iR p s g)⟩] rfl ?_ ?_));{have d:=TD (fU p s (bJ p s g) (bJ p s g).cases.length) (bJ p s g).cases.length ((fU p s (bJ p s g) (bJ p s g).cases.length).length==0&&(bJ p s g).els != -1) (by omega);(have e:kL (fU p s (bJ p s g) (bJ p s g).cases.length) (bJ p s g).cases.length ((fU p s (bJ p s g) (bJ p s g).cases.length).length==0&&(bJ p s g).els != -1)=iR p s g:=by rw [iR,xw (by simp [a])]);(have y:((fU p s (bJ p s g) (bJ p s g).cases.length).length==0&&(bJ p s g).els != -1)=(bif (((fU p s (bJ p s g) (bJ p s g).cases.length).length:Int)==0)then (bJ p s g).els != -1 else false):=by rw [band];congr 1;rw [acs];simp);rw [e,y]at d;have x:jm [.s 8 0,.s 99 0] [.cells ⟨23,1,λ_ => .own (.s 99 0) (fU p s (bJ p s g) (bJ p s g).cases.length).length 0 (fU p s (bJ p s g) (bJ p s g).cases.length).length none,0⟩,uG 3 .i64 (fU p s (bJ p s g) (bJ p s g).cases.length)]:=⟨λ_ _=>rfl,λ_ _=>rfl,tt⟩;have m:jm (bs 2) (TF (iR p s g)):=⟨λ_ _=>rfl,λ_ _=>rfl,tt⟩;exact au};refine sg rfl (rX ?_);refine aJ hT [(.s 99 0,(iR p s g).length)] (ts:=[(6,ints false (iR p s g))]) (l:=[ints false (iR p s g)]) ⟨⟨_,rfl,abd _⟩,tt⟩ ⟨⟨rfl,_,rfl,?_⟩,tt⟩ trivial rfl rfl rfl;exact iw rfl rfl rfl (λh=>by cases h) (by simp [dW,aS]) (λq n=>by rw [ada];exact ⟨rfl,vU.refl _⟩)
structure Qc where
 kind:Int
 num:Int
 wr:Bool
 deriving DecidableEq
def vS (x:Qc):AV:=bC 134 [.int x.kind,.int x.num,.bool x.wr]
def rQ:Qc:=⟨0,0,false⟩
structure Wv where
 go:Int
 a:Int
 b:Int
 op:Int
 c:Int
 val:Int
 tag:Int
 ts:List Qc
 n:Int
def Y2 (l:List Qc):AV := .agg 135 6 (λi=>vS (l.getD i rQ))
def iJ (x:Wv):AV:=bC 137 [.int x.go,.int x.a,.int x.b,.int x.op,.int x.c,.int x.val,.int x.tag,Y2 x.ts,.int x.n]
theorem qm (x:Wv):fC (iJ x)=true:=zT (λi hi=>by
 match i,hi with
 | 0,_ | 1,_ | 2,_ | 3,_ | 4,_ | 5,_ | 6,_ | 8,_=>rfl
 | 7,_=>exact zT (λj _=>zT (λq a=>by match q,a with | 0,_ | 1,_ | 2,_=>rfl)))
def yx:Wv:=⟨0,0,0,0,0,0,0,[],0⟩
section
variable {α:Type} [DecidableEq α] (d:α)
def dd (l:List α):Nat->List α
 | 0=>[]
 | k+1=>if 0<k/\l.getD k d=l.getD (k - 1) d then dd l k else dd l k++[l.getD k d]
theorem RF (l:List α):∀ k,(dd d l k).length<=k
 | 0=>abd _
 | k+1=>by have:=RF l k;simp only [dd];split;{omega};simp;omega
theorem RG (l:List α):∀ k,k<=l.length->(∀ j,0<j->j<k->l.getD j d≠l.getD (j - 1) d)->dd d l k=l.take k
 | 0,_,_=>rfl
 | k+1,hk,h=>by rw [dd,xw (λe=>h k e.1 (by omega) e.2),RG l k (by omega) (λj a b=>h j a (by omega))];rw [aei];(have:k<l.length:=by omega);simp [this]
theorem Uc {l:List α} {k:Nat} (a:0<k) (h:l.getD k d=l.getD (k - 1) d):dd d l (k+1)=dd d l k:=by rw [dd,aa2 ⟨a,h⟩]
theorem aaQ {l:List α} {k:Nat} (h:l.getD k d≠l.getD (k - 1) d):dd d l (k+1)=dd d l k++[l.getD k d]:=by rw [dd,xw (λe=>h e.2)]
theorem NR {l:List α} (h:∀ j,0<j->j<l.length->l.getD j d≠l.getD (j - 1) d):dd d l l.length=l:=by
 rw [RG d l l.length (abd _) h,adX]
theorem Zh {enc:α->AV} {l c:List α} {i:Nat} {z:AV} (ht:c.take i=dd d l l.length) (hi:i=(dd d l l.length).length) (hl:i<=l.length) (q:Nat) (g:q<l.length) :
 (bif Nat.ble i q&&Nat.blt q (i+(l.length - i))then z else enc (c.getD q d))=(bif Nat.blt q (dd d l l.length).length then enc ((dd d l l.length).getD q d)else z):=by
 by_cases h:i<=q
 ·have e:(Nat.ble i q&&Nat.blt q (i+(l.length - i)))=true:=by simp [h,ad6];omega
  have a:Nat.blt q (dd d l l.length).length=false:=by
   cases b:Nat.blt q (dd d l l.length).length with
   | false=>rfl
   | true=>rw [ad6]at b;omega
  rw [e,a,adD,adB]
 ·have e:(Nat.ble i q&&Nat.blt q (i+(l.length - i)))=false:=by simp;intro f;omega
  rw [e,adB,rE (by omega),<- ht];simp only [aae,adW];rw [aa2 (by omega)]
end
theorem Gl {i:Nat} (h:1<=i) (a:i<2 ^ 63):(IntKind.i64.wrap ((i:Int) - 1)).toNat=i - 1:=by rw [bK (by omega) (by omega)];omega
theorem Tj {α:Type} {enc:α->AV} {z:AV} {ids:List Id} (h:∀ a,fZ ids (enc a)=true) (b:fZ ids z=true) (l:List α) {d:α} {q n:Nat}:fZ ids (bif Nat.blt q n then enc (l.getD q d)else z)=true:=by
 cases Nat.blt q n
 ·exact b
 exact h _
open Go.Proofs Go.Sort
section
variable {α:Type} [Inhabited α]
def jh (a:α->α->Int) (l:List α):List α:=(pdq (Go.Proofs.ltOf a) l.toArray 0 l.length (Lib.bitLen l.length) true true).toList
theorem y7 {a:α->α->Int} (b:SWO (Go.Proofs.ltOf a)) (l:List α):PermIn 0 l.length l.toArray (jh a l).toArray/\SortedIn (Go.Proofs.ltOf a) 0 l.length (jh a l).toArray:=by
 have h:=pdq_sorts (Go.Proofs.ltOf a) b l.toArray 0 l.length (Lib.bitLen l.length) true true (abq _) (by simp) (.inl rfl);exact ⟨by simpa [jh]using h.1,by simpa [jh]using h.2⟩
theorem tN {a:α->α->Int} (b:SWO (Go.Proofs.ltOf a)) (l:List α):(jh a l).length=l.length:=by
 have:=(y7 b l).1.1;simpa using this
theorem Nz {a:α->α->Int} (b:SWO (Go.Proofs.ltOf a)) (l:List α):(jh a l).Perm l:=by
 have h:=(y7 b l).1.2.2;have hl:=tN b l;simp only [List.extract_toArray,List.extract_eq_take_drop]at h;have c:(List.take l.length (jh a l)).Perm l:=by simpa using h
 rwa [List.take_of_length_le (by omega)]at c
theorem Jf {a:α->α->Int} (c:SWO (Go.Proofs.ltOf a)) (l:List α):(jh a l).Pairwise λx y=>Go.Proofs.ltOf a y x=false:=by
 rw [List.pairwise_iff_getElem];intro i j hi d b;have hl:=tN c l;have:=(y7 c l).2 i j (abq _) b (by omega);simpa [hi,d]using this
end
section
variable {P:Program} {T:Nat->TI} {N:Nat}
structure acp (T:Nat->TI) (N E k:Nat) {α:Type} (encA:α->AV) (encV:α->List Value):Prop where
 len:∀ x,(encV x).length=k
 one:∀ x,∀ v∈encV x,v.oneCell'=true
 rep:∀ I ρ x,Rep T N I ρ (encA x) (encV x)
 uni:∀ I ρ x cs,Rep T N I ρ (encA x) cs->cs=encV x
 fits:∀ x,fit T E (encA x)=true
 pack:∀ x,fH (encA x) (encV x) = .agg (encV x).toArray
 size:(T E).size=k
 pos:0<k
theorem Qg {A B:World} (h:Grown A B):∃ q b,B=grow (A.drewN q) b:=by
 refine ⟨B.drawn - A.drawn,B.heap.extract A.heap.size B.heap.size,?_⟩;obtain ⟨hp,j,dr,os,out⟩:=B;have c:=h.os;have d:=h.output;have e:=h.tape;simp only at c d e;simp only [grow,World.drewN,World.mk.injEq];refine ⟨?_,e.1,by omega,c,d⟩;apply Array.ext
 ·have:=h.size;simp only [Array.size_append,Array.size_extract]at *;omega
 intro i hi g;have:=h.size;rw [Array.getElem_append];split;{rename_i a;have:=h.same i a;simp only [Array.getElem?_eq_getElem hi,Array.getElem?_eq_getElem a,abg]at this;exact this};rename_i f;rw [Array.getElem_extract];congr 1;omega
theorem J5 {α:Type} [Inhabited α] (enc:α->List Value) (k:Nat) (w:World) (n blk off:Nat) (d:Array α) (os:Array Obj) {r:Nat} (b:r<w.heap.size) :
 (sortWorldK enc k w blk off n d os).heap[r]? = if blk=r then (w.heap[r]?).map (onCells (putCells id off (flatK enc k d)))else w.heap[r]? := by
 unfold sortWorldK putRowK;have a:r<(putRow id (Sort.ahead w n) blk off (flatK enc k d)).heap.size:=by simpa [putRow,mapBlock,Sort.ahead]using b
 rw [heap_grow_old _ _ a];simp only [putRow,mapBlock,Sort.ahead,Array.getElem?_modify]
theorem Zc {α:Type} [Inhabited α] {E k:Nat} {encA:α->AV} {encV:α->List Value} (hE:acp T N E k encA encV) {r:α->α->Int} {g:FuncId} (hc:∀ x y,AC P T N g [encA x,encA y] [] (.v (.int .i64 (r x y))) []) (blk off size:Nat) (w:World) (l:∀ (b o n:Nat),(T b).glb[o]? = some n->w.cell? ⟨b,o,none⟩=some (.int .u8 n)/\b≠blk):CmpLays P g #[] encV k r blk off size w:=by
 intro m os s a0 x y;have h:=(hc x y).2 (λb o=>((T b).glb[o]?).map λ(m:Nat)=>Value.int .u8 (m:Int)) gX (sortWorldK encV k w blk off m s os) [.agg (encV x).toArray,.agg (encV y).toArray] rfl (λi a v d c=>by
  match i with
  | 0=>simp at d c;subst d c;exact .one ⟨_,hE.rep _ _ x,(hE.pack x).symm⟩
  | 1=>simp at d c;subst d c;exact .one ⟨_,hE.rep _ _ y,(hE.pack y).symm⟩
  | i+2=>simp at d) ⟨λid B h=>(by cases id <;> simp [yU]at h),λid B h=>(by cases id <;> simp [yU]at h),λid p h=>(by cases h),λi j p q h=>(by cases h),λb o y h=>(by
   simp only [ac9]at h
   obtain ⟨n,u,rfl⟩:=h
   obtain ⟨t,z⟩:=l b o n u
   rw [nU (w:=w) ?_]
   ·exact t
   ·rw [J5 encV k w m blk off s os (lT t),xw (λe=>z e.symm)]),λb o n h=>(by simp [h])⟩
 refine h.mono ?_;rintro e w' ⟨v,I',ρ',rfl,f,c,_⟩;exact ⟨by rw [c.v.1],Qg (Grown.of_ev f)⟩
theorem WW (hT:ji P T N) {a0:Go.Shelf.Ren} (L:SlLaysF0.n6 P a0) {α:Type} [Inhabited α] {E k:Nat} {encA:α->AV} {encV:α->List Value} (hE:acp T N E k encA encV)
 (aE:∀ w,(isAgg (a0.t 24)).run P w = .ok true w) (zE:∀ w,(Go.sizeOf (a0.t 24)).run P w = .ok k w) {d:α->α->Int} (hO:SWO (Go.Proofs.ltOf d)) {g:FuncId} (eg:∀ args w,(callFunc g args).run P w = .ok (.enter g args) w)
 (hc:∀ x y,AC P T N g [encA x,encA y] [] (.v (.int .i64 (d x y))) []) (a5:callable P (a0.f 6)) (l:List α) (b1:l.length<4611686018427387904) :
 AC P T N (a0.f 6) [.own (.b 0) l.length 0 l.length none,.clo g []] [dn E encA default l] (.tup []) [dn E encA default (jh d l)]:=by
 refine ⟨a5,λI ρ w vs d6 b6 hw=>?_⟩;obtain ⟨v,c0,rfl⟩:∃ v c0,vs=[v,c0]:=by
  match vs,d6 with
  | [v,c0],_=>exact ⟨v,c0,rfl⟩
 have hv:=(b6 0 _ v rfl rfl).rep1 (λ_=>by simp);have d5:=(b6 1 _ c0 rfl rfl).rep1 (λ_=>by simp)
 have d1:c0 = .func (.func g) #[] #[]:=by
  obtain ⟨cs,h1,h2⟩:=d5;cases h1 with
  | clo ys hl h =>
   have:ys = #[]:=aex (by simpa using hl);subst this;exact h2
 subst d1;have z:=tN hO l
 have hm:yU [dn E encA default l] (.b 0)=some (dn E encA default l):=rfl;have b4:yU [dn E encA default (jh d l)]=uK (yU [dn E encA default l]) (.b 0) (dn E encA default (jh d l)):=by
  funext a;by_cases ha:a = .b 0
  ·subst ha;rw [fA];rfl
  ·rw [iI _ _ ha];cases a with
   | s _ _=>rfl
   | b j =>
    cases j with
    | zero=>exact absurd rfl ha
    | succ j=>rfl
 rcases Rep.own_inv hv with ⟨rfl,h0,_,_⟩ | ⟨q,hq,f5,hx⟩
 ·obtain rfl:l=[]:=ad8 h0;refine (AnyF.slices_SortFunc_none L none 0 (.func (.func g) #[] #[]) w).mono ?_;rintro e w' ⟨rfl,rfl⟩;refine ⟨_,I,ρ,rfl,Ev.refl _ _ _,.tup _ rfl (λi c hi=>by simp at hi),?_⟩;rw [show jh d ([]:List α)=[]from ad8 z];exact hw
 ·obtain ⟨q',cs,c1,c2,c3,c4,c5,c6,c7,c8,c9,e0⟩:=hw.cellsAt hm hq;rw [hq]at c1;cases c1;obtain ⟨c,rfl,g1,g2,g3,g4,g5,g6⟩:=hx c3;simp only [hE.size]at c7 c8;have a6:=hE.pos
  have p:∀ j,j<l.length*k->cs[j]? = some ((encV (l.getD (j / k) default))[j % k]!):=by
   intro j m;have d3:j / k<l.length:=(Nat.div_lt_iff_lt_mul a6).2 m
   obtain ⟨seg,e1,e2,e3,e4⟩:=c8 (j / k) d3;have b3:=hE.uni _ _ _ _ e1
   subst b3;have hm:=ae8 j a6
   have:=e4 (j % k) hm;rw [show j / k*k+j % k=j by rw [aeC];exact aeW j k]at this;rw [this];have u:j % k<(encV (l.getD (j / k) default)).length:=by rw [hE.len];exact hm
   rw [Y0 u,getElem!_pos (encV (l.getD (j / k) default)) (j % k) u]
  have u:=hw.place_lt hq;have hH:HoldsK encV k w q.b 0 l.toArray:=by
   intro j m;have b0:j<l.length*k:=by simpa using m
   refine ⟨?_,?_⟩
   ·simp only [World.cell?,c5,ada];rw [p j b0,get_flatK _ _ _ _ (by simpa using b0)];simp [aae,getElem!_def];cases l[j / k]? <;> rfl
   ·simp [World.frozen?,c5]
  have a1:=AnyQ.slices_SortFunc_eq L k aE zE encV hE.len hE.one d hO g #[] q.b 0 c l.toArray w eg (Zc hE hc q.b 0 l.toArray.size w (λb o n a9=>⟨hw.imm _ _ _ (hw.gl b o n a9),λe=>by
   have h9:=c9 o (by rw [<- e,hw.gl b o n a9];simp);simp at h9⟩)) hH u (by simpa using b1)
  simp only [Nat.zero_mul];refine a1.mono ?_;rintro e w' ⟨rfl,n,os,rfl⟩;have d2:(pdq (Go.Proofs.ltOf d) l.toArray 0 l.toArray.size (Lib.bitLen l.toArray.size) true true)=(jh d l).toArray:=by simp [jh]
  rw [d2];have a4:=λr hr=>J5 encV k w n q.b 0 (jh d l).toArray os (r:=r) hr
  have a2:∀ j,(putCells id 0 (flatK encV k (jh d l).toArray) cs)[j]? = if j<l.length*k then some ((encV ((jh d l).getD (j / k) default))[j % k]!)else cs[j]? := by
   intro j;simp only [putCells,Array.getElem?_mapIdx,ada,abq,true_and,size_flatK,aeo,z,aeQ];split
   ·rename_i m;rw [p j m];simp only [aea,abg,id];rw [get_flatK _ _ _ _ (by simpa [z]using m)];simp [aae,getElem!_def];cases (jh d l)[j / k]? <;> rfl
   ·cases cs[j]? <;> rfl
  have b5:=JB (len:=l.length) (i:=0) (h:=λj=>encA ((jh d l).getD j default)) (cs':=putCells id 0 (flatK encV k (jh d l).toArray) cs) (w':=sortWorldK encV k w q.b 0 n (jh d l).toArray os) hT hw hm hq (by simp) (abq _) c5 (by simp [putCells])
   (by rw [a4 _ u,aa2 rfl,c5];rfl) (λb hb d4=>by rw [a4 _ hb,xw (Ne.symm d4)]) (by simp [sortWorldK,putRowK,putRow,mapBlock,Sort.ahead,grow]) rfl rfl ⟨rfl,by simp [sortWorldK,putRowK,putRow,mapBlock,Sort.ahead,grow]⟩
   (
    λj m=>⟨encV ((jh d l).getD j default),hE.rep _ _ _,hE.fits _,by rw [hE.len];exact hE.size.symm,λo ho=>by
    have a7:o<k:=by rw [<- hE.size];exact ho
    have a8:(T E).size=k:=hE.size;show (putCells id 0 (flatK encV k (jh d l).toArray) cs)[(0+j)*(T E).size+o]? = _
    rw [a8,ada];have b2:j*k+o<l.length*k:=by
     have:=ab4 k (show j+1<=l.length from m);rw [adN,Nat.one_mul]at this;omega
    rw [a2,aa2 b2];have e1:(j*k+o) / k=j:=by rw [aeC,Nat.mul_add_div a6,Nat.div_eq_of_lt a7,aeb]
    have e2:(j*k+o) % k=o:=by rw [aeC,Nat.mul_add_mod,aeE a7]
    rw [e1,e2];have a3:o<(encV ((jh d l).getD j default)).length:=by rw [hE.len];exact a7
    rw [Y0 a3,getElem!_pos (encV ((jh d l).getD j default)) o a3]⟩)
   (
    λj m=>by
    have a8:(T E).size=k:=hE.size;change j<0*(T E).size\/(0+l.length)*(T E).size<=j at m;rw [a8,Nat.zero_mul,ada]at m;rw [a2,xw (by omega)])
  refine ⟨_,I,ρ,rfl,b5.1,.tup _ rfl (λi c hi=>by simp at hi),?_⟩;rw [b4];have e2:(Ob.cells { ty:=E,n:=l.length,get:=λj=>bif Nat.ble 0 j&&Nat.blt j (0+l.length)then encA ((jh d l).getD (j - 0) default)else encA (l.getD j default),fz:=0}:Ob)=dn E encA default (jh d l):=by
   simp only [dn,Ob.cells.injEq,Ad.mk.injEq,z,true_and,and_true];funext j;by_cases m:j<l.length
   ·have e:(Nat.ble 0 j&&Nat.blt j (0+l.length))=true:=by rw [abf];exact ⟨by simp,by rw [ad6];omega⟩
    rw [e];rfl
   ·have e:(Nat.ble 0 j&&Nat.blt j (0+l.length))=false:=by
     cases hb:(Nat.ble 0 j&&Nat.blt j (0+l.length))with
     | false=>rfl
     | true=>rw [abf,ad6]at hb;omega
    rw [e];simp [aae,z,show l.length<=j by omega]
  refine Eq.mp ?_ b5.2;exact ac8 (λo=>dY T N I ρ (uK (yU [dn E encA default l]) (.b 0) o) _) e2
end
end Go.Ab
