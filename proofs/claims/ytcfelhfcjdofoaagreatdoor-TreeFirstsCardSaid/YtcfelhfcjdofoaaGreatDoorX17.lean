/- Part 18 of a proof of a statement about the given program: an abstract machine over the model, proved sound, and contracts of the functions that the statement reaches; the last part proves the statement, for every input, with no condition. -/
import Derived.Test.YtcfelhfcjdofoaaGreatDoorX15
import Derived.Test.YtcfelhfcjdofoaaGreatDoorX16
import Derived.Test.YtcfelhfcjdofoaaGreatDoorX13
import Derived.Shelf.SlSortCmp.NoneTotal
set_option autoImplicit false
set_option linter.unusedSimpArgs false
set_option linter.unusedVariables false
set_option maxHeartbeats 4000000
set_option maxRecDepth 20000
namespace Go.Ab
open Go.Proofs
def bA (k:IntKind) (x y:Int):Int:=k.wrap ((BitVec.ofInt k.bits x &&& BitVec.ofInt k.bits y).toNat:Nat)
def bO (k:IntKind) (x y:Int):Int:=k.wrap ((BitVec.ofInt k.bits x ||| BitVec.ofInt k.bits y).toNat:Nat)
def bX (k:IntKind) (x y:Int):Int:=k.wrap ((BitVec.ofInt k.bits x ^^^ BitVec.ofInt k.bits y).toNat:Nat)
def bN (k:IntKind) (x y:Int):Int:=k.wrap ((BitVec.ofInt k.bits x &&& ~~~BitVec.ofInt k.bits y).toNat:Nat)
abbrev wI (x:Int):Int:=IntKind.i64.wrap x
abbrev wU (x:Int):Int:=IntKind.u64.wrap x
theorem rF (x:Int):0<=wU x/\wU x<18446744073709551616:=by rw [wU,IntKind.wrap_u64];omega
def jL (b:Bool):Int:=if b then 1 else 0
theorem zX (b:Bool):AC Tryz.prog T aJ 290 [.bool b] [] (.int (jL b)) []:=by
 refine aX Tryz.func290 ?_;refine sg rfl (sq (sq (rg [] rfl ?_)));refine cd rfl (λa=>?_) (λa=>?_)
 ·refine sg rfl (rX ?_);refine bC hT (by rfl) ?_;simp_all [jL]
 refine sk (sq (rg [] rfl ?_));refine rX ?_;refine bC hT (by rfl) ?_;simp_all [jL]
def kJ (op:Int):Int:=if 1<=op/\op<=15 then 1 else if 16<=op/\op<=36 then 2 else 0
theorem OL (op:Int):AC Tryz.prog T aJ 268 [.int op] [] (.int (kJ op)) []:=by
 refine aX Tryz.func268 ?_;refine sg rfl (sq (bk (sq (rg [] rfl ?_))));refine cd rfl (λa=>?_) (λa=>?_)
 ·simp only [band]at a;simp at a;exact sg rfl (WP.ret (bC hT (by rfl) (by rw [kJ,aaI a])))
 simp only [band]at a;simp at a;refine sg rfl (cd rfl (λb=>?_) (λb=>?_));{simp only [band]at b;simp at b;exact sg rfl (WP.ret (bC hT (by rfl) (by rw [kJ,Y0 (by omega),aaI (by omega)])))};simp only [band]at b;simp at b;refine sk (sq (rg [] rfl ?_));exact WP.ret (bC hT (by rfl) (by rw [kJ,Y0 (by omega),Y0 (by omega)]))
def BJ (x:Int):Int:=wU (bA .u64 (x.fdiv 2) 6148914691236517205+bA .u64 x 6148914691236517205)
def Ef (x:Int):Int:=wU (bA .u64 (x.fdiv 4) 3689348814741910323+bA .u64 x 3689348814741910323)
def Gv (x:Int):Int:=bA .u64 (wU (x.fdiv 16+x)) 1085102592571150095
def qp (k x:Int):Int:=wU (x+x.fdiv k)
def Gu (x:Int):Int:=bA .i64 (wI (qp 4294967296 (qp 65536 (qp 256 (Gv (Ef (BJ x))))))) 127
theorem YR (x:Int):AC Tryz.prog T aJ 286 [.v (.int .u64 x)] [] (.int (Gu x)) []:=by
 refine aX Tryz.func286 ?_;refine sg rfl (sg rfl ?_);refine sq (WP.ent (st':=aN [(0,.v (.int .u64 (BJ x)))] []) ?_ ?_)
 ·refine eX cX trivial
 refine rg [] rfl (sq ?_);refine WP.ent (st':=aN [(0,.v (.int .u64 (Ef (BJ x))))] []) ?_ ?_
 ·refine eX cX trivial
 refine rg [] rfl (sq ?_);refine WP.ent (st':=aN [(0,.v (.int .u64 (Gv (Ef (BJ x)))))] []) ?_ ?_
 ·refine eX cX trivial
 refine rg [] rfl (sq ?_);refine WP.ent (st':=aN [(0,.v (.int .u64 (qp 256 (Gv (Ef (BJ x))))))] []) ?_ ?_
 ·refine eX cX trivial
 refine rg [] rfl (sq ?_);refine WP.ent (st':=aN [(0,.v (.int .u64 (qp 65536 (qp 256 (Gv (Ef (BJ x)))))))] []) ?_ ?_
 ·refine eX cX trivial
 refine rg [] rfl (sq ?_);refine WP.ent (st':=aN [(0,.v (.int .u64 (qp 4294967296 (qp 65536 (qp 256 (Gv (Ef (BJ x))))))))] []) ?_ ?_
 ·refine eX cX trivial
 exact rg [] rfl (WP.ret (bC hT (by rfl) rfl))
theorem Zb (x:Int) (a:0<=x) (b:x<18446744073709551616):AC Tryz.prog T aJ 287 [.v (.int .u64 x)] [] (.int (64 - (Go.Lib.bitLen x.toNat:Int))) [] :=
 AC.of_calls (xs:=[.int .u64 x]) ⟨_,Tryz.func287,rfl,rfl⟩ (λI ρ=>fQ rfl) λw _=>Any.bits_LeadingZeros64 Tryz.layLz x w a (by omega)
theorem Vl (x:Int) (b:0<=x) (c:x<18446744073709551616):AC Tryz.prog T aJ 288 [.v (.int .u64 x)] [] (.int (Go.Lib.ctz 64 x.toNat:Nat)) []:=by
 obtain ⟨n,rfl⟩:=adF b;exact AC.of_calls (xs:=[.int .u64 n]) ⟨_,Tryz.func288,rfl,rfl⟩ (λI ρ=>fQ rfl) λw hw=>Any7.bits_TrailingZeros64 Tryz.layTz n (by omega) w λ_ j a=>hw 0 j _ (by
  show UR[j]? = _
  have e:UR=Go.Lib.deBruijn64tab:=rfl
  rw [e,aaF a,aaS,aaF a]
  rfl)
theorem aaC (x y:Nat) (hx:x<18446744073709551616) (a:y<18446744073709551616):AC Tryz.prog T aJ 299 [.v (.int .u64 x),.v (.int .u64 y)] [] (.tup [.v (.int .u64 ((x*y / 18446744073709551616:Nat):Int)),.v (.int .u64 ((x*y % 18446744073709551616:Nat):Int))]) [] :=
 AC.of_calls (xs:=[.int .u64 x,.int .u64 y]) ⟨_,Tryz.func299,rfl,rfl⟩ (λI ρ => .tup _ rfl λi c h=>match i,h with | 0,h=>by cases h;exact Du rfl | 1,h=>by cases h;exact Du rfl) λw _=>Any.bits_Mul64 Tryz.layMul x y hx a w
def AL (a:Int):Nat->Int
 | 0=>0
 | k+1=>bO .u64 (AL a k) (wU (bA .u64 ((wU a).fdiv (2 ^ min k 64)) 1*2 ^ (min (63 - k) 64)))
def NY (a:Int):Int:=wI (AL a 64)
theorem Zm (a:Int):AC Tryz.prog T aJ 289 [.int a] [] (.int (NY a)) []:=by
 refine aX Tryz.func289 ?_;refine sg rfl (sg rfl ?_);refine sq (sq (rg [] rfl ?_));refine bk (WP.loop (α:=Nat) (λk=>aN [(0,.int a),(3,.v (.int .u64 (AL a k))),(5,.int k)] []) (λk=>k<=64) (λk=>64 - k) ?_ ?_)
 ·refine ⟨0,?_,?_⟩;{exact abr _};refine eX cX trivial
 rintro k hk;refine sg rfl (sq ?_);refine cd rfl (λd=>?_) (λd=>?_);{(have b:k<64:=by simp at d;omega);(have c:IntKind.i64.wrap (63 - (k:Int))=((63 - k:Nat):Int):=by rw [bK (by omega) (by omega)];omega);refine sk (sq (bk (sq (rg [] rfl ?_))));refine rgs [] rfl ?_ ?_;{simp only [ay,under];(repeat' refine And.intro ?_ ?_);all_goals (first | trivial | (rw [c];omega) | omega)};refine rg [] rfl ⟨k+1,?_,?_,?_⟩;{exact b};{refine eX ⟨cq,⟨rfl,_,rfl,ah (by rw [AL,bO,bA];simp only [c,ab6];rfl)⟩,cq,tt⟩ trivial};(try simp only []);first | omega | grind};(have b:k=64:=by simp at d;omega);subst b;refine xt (sq (rg [] rfl ?_));exact WP.ret (bC hT (by rfl) rfl)
def PD (x r:Int):Int:=bO .u64 (wU (x*2 ^ (min (bA .u64 (wU r) 63).toNat 64))) (x.fdiv (2 ^ (min (wU (64 - bA .u64 (wU r) 63)).toNat 64)))
theorem abA (x y:Int):0<=bA .u64 x y/\bA .u64 x y<18446744073709551616:=rF _
theorem aaj (x r:Int):AC Tryz.prog T aJ 291 [.v (.int .u64 x),.int r] [] (.v (.int .u64 (PD x r))) []:=by
 refine aX Tryz.func291 ?_;refine sg rfl (sg rfl ?_);refine sq (rgs [] rfl ?_ ?_)
 ·have a:=abA (wU r) 63;have b:=rF (64 - bA .u64 (wU r) 63);simp only [ay,under];exact ⟨a.1,b.1⟩
 exact WP.ret (aH hT [] (ts:=[(4,.v (.int .u64 (PD x r)))]) (l:=[.v (.int .u64 (PD x r))]) trivial ⟨⟨rfl,_,rfl,ah rfl⟩,tt⟩ trivial rfl rfl rfl)
def Rz (a b:Int):Int:=(((wU a).toNat*(wU b).toNat / 18446744073709551616:Nat):Int)
def GZ (a b:Int):Int:=if a<0 then wU (Rz a b - wU b)else Rz a b
def og (a b:Int):Int:=if b<0 then wU (GZ a b - wU a)else GZ a b
def vV (a b:Int):Int:=(((wU a).toNat*(wU b).toNat % 18446744073709551616:Nat):Int)
theorem Yq (a b:Int):AC Tryz.prog T aJ 292 [.int a,.int b] [] (.tup [.int (wI (og a b)),.v (.int .u64 (vV a b))]) []:=by
 refine aX Tryz.func292 ?_;refine sg rfl (sq (rgs [CG.pure (.tup [.v (.int .u64 (Rz a b)),.v (.int .u64 (vV a b))])] rfl ?_ ?_))
 ·have e:=rF a;have c:=rF b;have f:=aaC (wU a).toNat (wU b).toNat (by omega) (by omega);rw [adu e.1,adu c.1]at f;exact au
 refine sq (sq (rg [] rfl ?_));refine cd rfl (λc=>?_) (λc=>?_)
 ·refine rg [] rfl (sq (sq (rg [] rfl ?_)));refine cd rfl (λd=>?_) (λd=>?_);{refine rg [] rfl (sg rfl ?_);refine rX ?_;exact aH hT [] (ts:=[(4,.int (wI (og a b))),(5,.v (.int .u64 (vV a b)))]) (l:=[.int (wI (og a b)),.v (.int .u64 (vV a b))]) trivial ⟨⟨rfl,_,rfl,ah (by simp at c d;simp only [og,GZ];(repeat' split) <;> first | rfl | omega)⟩,⟨rfl,_,rfl,ah rfl⟩,tt⟩ trivial rfl rfl rfl};refine sk (sq (rg [] rfl ?_));refine rX ?_;exact aH hT [] (ts:=[(4,.int (wI (og a b))),(5,.v (.int .u64 (vV a b)))]) (l:=[.int (wI (og a b)),.v (.int .u64 (vV a b))]) trivial ⟨⟨rfl,_,rfl,ah (by simp at c d;simp only [og,GZ];(repeat' split) <;> first | rfl | omega)⟩,⟨rfl,_,rfl,ah rfl⟩,tt⟩ trivial rfl rfl rfl
 refine sk (sq (sq (rg [] rfl ?_)));refine cd rfl (λd=>?_) (λd=>?_);{refine rg [] rfl (sg rfl ?_);refine rX ?_;exact aH hT [] (ts:=[(4,.int (wI (og a b))),(5,.v (.int .u64 (vV a b)))]) (l:=[.int (wI (og a b)),.v (.int .u64 (vV a b))]) trivial ⟨⟨rfl,_,rfl,ah (by simp at c d;simp only [og,GZ];(repeat' split) <;> first | rfl | omega)⟩,⟨rfl,_,rfl,ah rfl⟩,tt⟩ trivial rfl rfl rfl};refine sk (sq (rg [] rfl ?_));refine rX ?_;exact aH hT [] (ts:=[(4,.int (wI (og a b))),(5,.v (.int .u64 (vV a b)))]) (l:=[.int (wI (og a b)),.v (.int .u64 (vV a b))]) trivial ⟨⟨rfl,_,rfl,ah (by simp at c d;simp only [og,GZ];(repeat' split) <;> first | rfl | omega)⟩,⟨rfl,_,rfl,ah rfl⟩,tt⟩ trivial rfl rfl rfl
def lC (op a:Int):Int:=if op=3 then (if 0<=a then a else wI (0 - a))else if op=1 then wI (0 - a)else if op=2 then bX .i64 (-1) a else if op=4 then Gu (wU a)else
 if op=5 then 64 - (Go.Lib.bitLen (wU a).toNat:Int)else if op=6 then (Go.Lib.ctz 64 (wU a).toNat:Nat)else if op=7 then NY a else if op=8 then jL (a != 0)else if op=9 then jL (a==0)else
 if op=10 then wI (IntKind.i8.wrap a)else if op=11 then wI (IntKind.i16.wrap a)else if op=12 then wI (IntKind.i32.wrap a)else if op=13 then wI (IntKind.u8.wrap a)else if op=14 then wI (IntKind.u16.wrap a)else wI (IntKind.u32.wrap a)
theorem aaw (op a:Int):AC Tryz.prog T aJ 269 [.int op,.int a] [] (.int (lC op a)) []:=by
 refine aX Tryz.func269 ?_;refine sg rfl (sq (sq (rg [] rfl ?_)));refine bk (sq (bk (sq (bk (sq (bk (sq (bk (sq (bk (sq (bk (sq (bk (sq (bk (sq (bk (sq (bk (sq (bk (sq (bk (sq (bk (sq (bk (sq (sq (sq (rg [] rfl ?_))))))))))))))))))))))))))))))));refine cd rfl (λj=>?_) (λj=>?_)
 ·refine xt (sq (rg [] rfl ?_));refine cd rfl (λi=>?_) (λi=>?_);{refine sg rfl (rX ?_);refine bC hT (by rfl) ?_;simp only [ab9,abL,abK,abW]at *;unfold lC;simp_all;all_goals (first | rfl | (intro;omega))};refine sk (sq (sq (rg [] rfl ?_)));refine rX ?_;refine bC hT (by rfl) ?_;simp only [ab9,abL,abK,abW]at *;unfold lC;simp_all;all_goals (first | rfl | (intro;omega))
 refine sk (sq (sq (rg [] rfl ?_)));refine cd rfl (λk=>?_) (λk=>?_);{refine xt (sq (sq (rg [] rfl ?_)));refine rX ?_;refine bC hT (by rfl) ?_;simp only [ab9,abL,abK,abW]at *;unfold lC;simp_all;all_goals (first | rfl | (intro;omega))};refine sk (sq (sq (rg [] rfl ?_)));refine cd rfl (λl=>?_) (λl=>?_);{refine xt (sq (sq (rg [] rfl ?_)));refine rX ?_;refine bC hT (by rfl) ?_;simp only [ab9,abL,abK,abW]at *;unfold lC;simp_all;all_goals (first | rfl | (intro;omega))};refine sk (sq (sq (rg [] rfl ?_)));refine cd rfl (λm=>?_) (λm=>?_);{refine xt (sq (sq (rgs [CG.pure (.int (Gu (wU a)))] rfl ?_ ?_)));{have b:=YR (wU a);exact au};refine rX ?_;refine bC hT (by rfl) ?_;simp only [ab9,abL,abK,abW]at *;unfold lC;simp_all;all_goals (first | rfl | (intro;omega))};refine sk (sq (sq (rg [] rfl ?_)));refine cd rfl (λn=>?_) (λn=>?_);{refine xt (sq (sq (rgs [CG.pure (.int (64 - (Go.Lib.bitLen (wU a).toNat:Int)))] rfl ?_ ?_)));{have b:=Zb (wU a) (rF a).1 (rF a).2;exact au};refine rX ?_;refine bC hT (by rfl) ?_;simp only [ab9,abL,abK,abW]at *;unfold lC;simp_all;all_goals (first | rfl | (intro;omega))};refine sk (sq (sq (rg [] rfl ?_)));refine cd rfl (λo=>?_) (λo=>?_);{refine xt (sq (sq (rgs [CG.pure (.int (Go.Lib.ctz 64 (wU a).toNat:Nat))] rfl ?_ ?_)));{have b:=Vl (wU a) (rF a).1 (rF a).2;exact au};refine rX ?_;refine bC hT (by rfl) ?_;simp only [ab9,abL,abK,abW]at *;unfold lC;simp_all;all_goals (first | rfl | (intro;omega))};refine sk (sq (sq (rg [] rfl ?_)));refine cd rfl (λp=>?_) (λp=>?_);{refine xt (sq (sq (rgs [CG.pure (.int (NY a))] rfl ?_ ?_)));{have b:=Zm a;exact au};refine rX ?_;refine bC hT (by rfl) ?_;simp only [ab9,abL,abK,abW]at *;unfold lC;simp_all;all_goals (first | rfl | (intro;omega))};refine sk (sq (sq (rg [] rfl ?_)));refine cd rfl (λq=>?_) (λq=>?_);{refine xt (sq (sq (rgs [CG.pure (.int (jL (a != 0)))] rfl ?_ ?_)));{have b:=zX (a != 0);exact au};refine rX ?_;refine bC hT (by rfl) ?_;simp only [ab9,abL,abK,abW]at *;unfold lC;simp_all;all_goals (first | rfl | (intro;omega))};refine sk (sq (sq (rg [] rfl ?_)));refine cd rfl (λc=>?_) (λc=>?_);{refine xt (sq (sq (rgs [CG.pure (.int (jL (a==0)))] rfl ?_ ?_)));{have b:=zX (a==0);exact au};refine rX ?_;refine bC hT (by rfl) ?_;simp only [ab9,abL,abK,abW]at *;unfold lC;simp_all;all_goals (first | rfl | (intro;omega))};refine sk (sq (sq (rg [] rfl ?_)));refine cd rfl (λd=>?_) (λd=>?_);{refine xt (sq (sq (rg [] rfl ?_)));refine rX ?_;refine bC hT (by rfl) ?_;simp only [ab9,abL,abK,abW]at *;unfold lC;simp_all;all_goals (first | rfl | (intro;omega))};refine sk (sq (sq (rg [] rfl ?_)));refine cd rfl (λe=>?_) (λe=>?_);{refine xt (sq (sq (rg [] rfl ?_)));refine rX ?_;refine bC hT (by rfl) ?_;simp only [ab9,abL,abK,abW]at *;unfold lC;simp_all;all_goals (first | rfl | (intro;omega))};refine sk (sq (sq (rg [] rfl ?_)));refine cd rfl (λf=>?_) (λf=>?_);{refine xt (sq (sq (rg [] rfl ?_)));refine rX ?_;refine bC hT (by rfl) ?_;simp only [ab9,abL,abK,abW]at *;unfold lC;simp_all;all_goals (first | rfl | (intro;omega))};refine sk (sq (sq (rg [] rfl ?_)));refine cd rfl (λg=>?_) (λg=>?_);{refine xt (sq (sq (rg [] rfl ?_)));refine rX ?_;refine bC hT (by rfl) ?_;simp only [ab9,abL,abK,abW]at *;unfold lC;simp_all;all_goals (first | rfl | (intro;omega))};refine sk (sq (rg [] rfl ?_));refine cd rfl (λh=>?_) (λh=>?_);{refine xt (sq (sq (rg [] rfl ?_)));refine rX ?_;refine bC hT (by rfl) ?_;simp only [ab9,abL,abK,abW]at *;unfold lC;simp_all;all_goals (first | rfl | (intro;omega))};refine sk (xt (sq (rg [] rfl ?_)));refine rX ?_;refine bC hT (by rfl) ?_;simp only [ab9,abL,abK,abW]at *;unfold lC;simp_all;all_goals (first | rfl | (intro;omega))
def xI (op a b:Int):Int×Int:=if b=0 then (0,20)else if op=19/\b = -1 then (wI (0 - a),0)else if op=19 then (wI (a.tdiv b),0)else if b = -1 then (0,0)else (a.tmod b,0)
theorem jS {nt:Nat} {t:Nat->Option (D×AV)} {m:Id->Option Ob} {j k:Nat} {a b c d:Int} (g:t j=some (.always,.int a)) (h:t k=some (.always,.int b)) (f:Nat.beq k j=false) (e:(a,b)=(c,d)):Fin T aJ nt 0 [.tmp j,.tmp k] (.tup [.int c,.int d]) [] ⟨t,m⟩:=by
 cases e;refine aH hT [] (ts:=[(j,.int a),(k,.int b)]) (l:=[.int a,.int b]) trivial ⟨⟨rfl,_,g,ah rfl⟩,⟨rfl,_,h,ah rfl⟩,tt⟩ trivial rfl ?_ rfl;have i:Nat.beq j j=true:=by simp
 have hk:Nat.beq k k=true:=by simp
 simp only [yM,aN,lT,f,i,hk];rfl
theorem Qy (op a b:Int):AC Tryz.prog T aJ 270 [.int op,.int a,.int b] [] (.tup [.int (xI op a b).1,.int (xI op a b).2]) []:=by
 refine aX Tryz.func270 ?_;refine sg rfl (sq (bk (sq (rg [] rfl ?_))));refine cd rfl (λc=>?_) (λc=>?_)
 ·refine sg rfl (rX ?_);refine jS (by rfl) (by rfl) rfl ?_;simp only [band,ab9,abL]at *;unfold xI;simp_all
 refine sg rfl (cd rfl (λd=>?_) (λd=>?_));{refine sg rfl (rX ?_);refine jS (by rfl) (by rfl) rfl ?_;simp only [band,ab9,abL]at *;unfold xI;simp_all};refine sg rfl (cd rfl (λe=>?_) (λe=>?_));{refine sq (rgs [] rfl ?_ ?_);{simp [ay,under]at *;assumption};refine rX ?_;refine jS (by rfl) (by rfl) rfl ?_;simp only [band,ab9,abL]at *;unfold xI;simp_all};refine sg rfl (cd rfl (λf=>?_) (λf=>?_));{refine sg rfl (rX ?_);refine jS (by rfl) (by rfl) rfl ?_;simp only [band,ab9,abL]at *;unfold xI;simp_all};refine sk (sq (rgs [] rfl ?_ ?_));{simp [ay,under]at *;assumption};refine rX ?_;refine jS (by rfl) (by rfl) rfl ?_;simp only [band,ab9,abL]at *;unfold xI;simp_all
def Mc (op a b:Int):Int×Int:=if b<0 then (0,21)else if op=25 then (wI (a*2 ^ (min (wU b).toNat 64)),0)else if op=26 then (a.fdiv (2 ^ (min (wU b).toNat 64)),0)else (wI ((wU a).fdiv (2 ^ (min (wU b).toNat 64))),0)
theorem Pm (op a b:Int):AC Tryz.prog T aJ 271 [.int op,.int a,.int b] [] (.tup [.int (Mc op a b).1,.int (Mc op a b).2]) []:=by
 refine aX Tryz.func271 ?_;refine sg rfl (sq (bk (sq (rg [] rfl ?_))));refine cd rfl (λc=>?_) (λc=>?_)
 ·refine sg rfl (rX ?_);refine jS (by rfl) (by rfl) rfl ?_;simp only [band,ab9,abL,abK,abW]at *;unfold Mc;(repeat' split) <;> first | rfl | omega
 refine sg rfl (cd rfl (λd=>?_) (λd=>?_));{refine sq (rgs [] rfl ?_ ?_);{exact (rF b).1};refine rX ?_;refine jS (by rfl) (by rfl) rfl ?_;simp only [band,ab9,abL,abK,abW]at *;unfold Mc;(repeat' split) <;> first | rfl | omega};refine sg rfl (cd rfl (λe=>?_) (λe=>?_));{refine sq (rgs [] rfl ?_ ?_);{exact (rF b).1};refine rX ?_;refine jS (by rfl) (by rfl) rfl ?_;simp only [band,ab9,abL,abK,abW]at *;unfold Mc;(repeat' split) <;> first | rfl | omega};refine sk (sq (rgs [] rfl ?_ ?_));{exact (rF b).1};refine rX ?_;refine jS (by rfl) (by rfl) rfl ?_;simp only [band,ab9,abL,abK,abW]at *;unfold Mc;(repeat' split) <;> first | rfl | omega
def lZ (op a b:Int):Int:=if op=16 then wI (a+b)else if op=17 then wI (a - b)else if op=18 then wI (a*b)else if op=21 then bA .i64 a b else if op=22 then bO .i64 a b else if op=23 then bX .i64 a b else
 if op=24 then bN .i64 a b else if op=28 then wI (PD (wU a) (bA .i64 b 63))else if op=29 then jL (a==b)else if op=30 then jL (a != b)else if op=31 then jL (decide (a<b))else
 if op=32 then jL (decide (a<=b))else if op=33 then jL (decide (wU a<wU b))else if op=34 then (if b<a then b else a)else if op=35 then (if b>a then b else a)else wI (og a b)
theorem Z7 (op a b:Int):AC Tryz.prog T aJ 272 [.int op,.int a,.int b] [] (.int (lZ op a b)) []:=by
 refine aX Tryz.func272 ?_;refine sg rfl (sq (sq (rg [] rfl ?_)));refine bk (sq (rg [] rfl ?_));refine cd rfl (λo=>?_) (λo=>?_)
 ·refine sg rfl (rX ?_);refine bC hT (by rfl) ?_;simp only [ab9,abL]at *;unfold lZ;simp_all only [Int.reduceEq,acZ,acG,ne_eq,acy,acF];all_goals rfl
 refine sg rfl (cd rfl (λp=>?_) (λp=>?_));{refine sg rfl (rX ?_);refine bC hT (by rfl) ?_;simp only [ab9,abL]at *;unfold lZ;simp_all only [Int.reduceEq,acZ,acG,ne_eq,acy,acF];all_goals rfl};refine sg rfl (cd rfl (λq=>?_) (λq=>?_));{refine sg rfl (rX ?_);refine bC hT (by rfl) ?_;simp only [ab9,abL]at *;unfold lZ;simp_all only [Int.reduceEq,acZ,acG,ne_eq,acy,acF];all_goals rfl};refine sg rfl (cd rfl (λr=>?_) (λr=>?_));{refine sg rfl (rX ?_);refine bC hT (by rfl) ?_;simp only [ab9,abL]at *;unfold lZ;simp_all only [Int.reduceEq,acZ,acG,ne_eq,acy,acF];all_goals rfl};refine sg rfl (cd rfl (λd=>?_) (λd=>?_));{refine sg rfl (rX ?_);refine bC hT (by rfl) ?_;simp only [ab9,abL]at *;unfold lZ;simp_all only [Int.reduceEq,acZ,acG,ne_eq,acy,acF];all_goals rfl};refine sg rfl (cd rfl (λe=>?_) (λe=>?_));{refine sg rfl (rX ?_);refine bC hT (by rfl) ?_;simp only [ab9,abL]at *;unfold lZ;simp_all only [Int.reduceEq,acZ,acG,ne_eq,acy,acF];all_goals rfl};refine sg rfl (cd rfl (λf=>?_) (λf=>?_));{refine sg rfl (rX ?_);refine bC hT (by rfl) ?_;simp only [ab9,abL]at *;unfold lZ;simp_all only [Int.reduceEq,acZ,acG,ne_eq,acy,acF];all_goals rfl};refine sg rfl (cd rfl (λg=>?_) (λg=>?_));{refine sq (rgs [CG.pure (.v (.int .u64 (PD (wU a) (bA .i64 b 63))))] rfl ?_ ?_);{have c:=aaj (wU a) (bA .i64 b 63);exact au};refine rX ?_;refine bC hT (by rfl) ?_;simp only [ab9,abL]at *;unfold lZ;simp_all only [Int.reduceEq,acZ,acG,ne_eq,acy,acF];all_goals rfl};refine sg rfl (cd rfl (λh=>?_) (λh=>?_));{refine sq (rgs [CG.pure (.int (jL (a==b)))] rfl ?_ ?_);{have c:=zX (a==b);exact au};refine rX ?_;refine bC hT (by rfl) ?_;simp only [ab9,abL]at *;unfold lZ;simp_all only [Int.reduceEq,acZ,acG,ne_eq,acy,acF];all_goals rfl};refine sg rfl (cd rfl (λi=>?_) (λi=>?_));{refine sq (rgs [CG.pure (.int (jL (a != b)))] rfl ?_ ?_);{have c:=zX (a != b);exact au};refine rX ?_;refine bC hT (by rfl) ?_;simp only [ab9,abL]at *;unfold lZ;simp_all only [Int.reduceEq,acZ,acG,ne_eq,acy,acF];all_goals rfl};refine sg rfl (cd rfl (λj=>?_) (λj=>?_));{refine sq (rgs [CG.pure (.int (jL (decide (a<b))))] rfl ?_ ?_);{have c:=zX (decide (a<b));exact au};refine rX ?_;refine bC hT (by rfl) ?_;simp only [ab9,abL]at *;unfold lZ;simp_all only [Int.reduceEq,acZ,acG,ne_eq,acy,acF];all_goals rfl};refine sg rfl (cd rfl (λk=>?_) (λk=>?_));{refine sq (rgs [CG.pure (.int (jL (decide (a<=b))))] rfl ?_ ?_);{have c:=zX (decide (a<=b));exact au};refine rX ?_;refine bC hT (by rfl) ?_;simp only [ab9,abL]at *;unfold lZ;simp_all only [Int.reduceEq,acZ,acG,ne_eq,acy,acF];all_goals rfl};refine sg rfl (cd rfl (λl=>?_) (λl=>?_));{refine sq (rgs [CG.pure (.int (jL (decide (wU a<wU b))))] rfl ?_ ?_);{have c:=zX (decide (wU a<wU b));exact au};refine rX ?_;refine bC hT (by rfl) ?_;simp only [ab9,abL]at *;unfold lZ;simp_all only [Int.reduceEq,acZ,acG,ne_eq,acy,acF];all_goals rfl};refine sg rfl (cd rfl (λm=>?_) (λm=>?_));{refine sg rfl (rX ?_);refine bC hT (by rfl) ?_;simp only [ab9,abL]at *;unfold lZ;simp_all only [Int.reduceEq,acZ,acG,ne_eq,acy,acF];all_goals rfl};refine sg rfl (cd rfl (λn=>?_) (λn=>?_));{refine sg rfl (rX ?_);refine bC hT (by rfl) ?_;simp only [ab9,abL]at *;unfold lZ;simp_all only [Int.reduceEq,acZ,acG,ne_eq,acy,acF];all_goals rfl};refine sk (sq (rgs [CG.pure (.tup [.int (wI (og a b)),.v (.int .u64 (vV a b))])] rfl ?_ ?_));{have c:=Yq a b;exact au};refine sg rfl (rX ?_);refine bC hT (by rfl) ?_;simp only [ab9,abL]at *;unfold lZ;simp_all only [Int.reduceEq,acZ,acG,ne_eq,acy,acF];all_goals rfl
def lg (op a b:Int):Int×Int:=if kJ op=0 then (0,22)else if kJ op=1 then (lC op a,0)else if op=19\/op=20 then xI op a b else if 25<=op/\op<=27 then Mc op a b else (lZ op a b,0)
theorem Yg (op a b:Int):AC Tryz.prog T aJ 244 [.int op,.int a,.int b] [] (.tup [.int (lg op a b).1,.int (lg op a b).2]) []:=by
 refine aX Tryz.func244 ?_;refine sg rfl (sq (bk (sq (rgs [CG.pure (.int (kJ op))] rfl ?_ ?_))))
 ·have c:=OL op;exact au
 refine cd rfl (λd=>?_) (λd=>?_)
 ·refine sg rfl (rX ?_);refine jS (by rfl) (by rfl) rfl ?_;(try simp only [fM,band]at *);simp at *;unfold lg;(repeat' split) <;> first | rfl | omega
 refine sq (rgs [CG.pure (.int (kJ op))] rfl ?_ ?_);{have c:=OL op;exact au};refine cd rfl (λe=>?_) (λe=>?_);{refine sq (rgs [CG.pure (.int (lC op a))] rfl ?_ ?_);{have c:=aaw op a;exact au};refine rX ?_;refine jS (by rfl) (by rfl) rfl ?_;(try simp only [fM,band]at *);simp at *;unfold lg;(repeat' split) <;> first | rfl | omega};refine sg rfl (cd rfl (λf=>?_) (λf=>?_));{refine sq (rgs [CG.pure (.tup [.int (xI op a b).1,.int (xI op a b).2])] rfl ?_ ?_);{have c:=Qy op a b;exact au};refine rX ?_;refine jS (by rfl) (by rfl) rfl ?_;(try simp only [fM,band]at *);simp at *;unfold lg;(repeat' split) <;> first | rfl | omega};refine sg rfl (cd rfl (λg=>?_) (λg=>?_));{refine sq (rgs [CG.pure (.tup [.int (Mc op a b).1,.int (Mc op a b).2])] rfl ?_ ?_);{have c:=Pm op a b;exact au};refine rX ?_;refine jS (by rfl) (by rfl) rfl ?_;(try simp only [fM,band]at *);simp at *;unfold lg;(repeat' split) <;> first | rfl | omega};refine sk (sq (rgs [CG.pure (.int (lZ op a b))] rfl ?_ ?_));{have c:=Z7 op a b;exact au};refine rX ?_;refine jS (by rfl) (by rfl) rfl ?_;(try simp only [fM,band]at *);simp at *;unfold lg;(repeat' split) <;> first | rfl | omega
def z8:List Int:=[0,0,0,0,0,0,0,0]
def kG (g:jm) (st why:Int):jm:={ g with status:=st,why:=why,regs:=z8}
theorem FI (t:Nat):(AV.agg t 8 λ_=>AV.int 0)=kX t 8 .i64 z8:=bP λi=>by match i with | 0 | 1 | 2 | 3 | 4 | 5 | 6 | 7=>rfl | i+8=>rfl
theorem XP (g:jm) (st why:Int):(((cZ g).put [0] (.int st)).put [3] (.int why)).put [4] (.agg 52 8 λ_=>AV.int 0)=cZ (kG g st why):=by
 rw [gu,Dx,FI,Gp];rfl
theorem Fj (g:jm) (st why:Int):AC Tryz.prog T aJ 243 [cZ g,.int st,.int why] [] (cZ (kG g st why)) []:=by
 refine aX Tryz.func243 ?_;refine sg rfl (sg rfl ?_);exact sg rfl (WP.ret (aY hT rfl rfl rfl rfl rfl (ah (XP g st why)) rfl rfl rfl))
def rC (g:jm) (r v:Int):jm:={ g with regs:=g.regs.set r.toNat v}
def BO (g:jm) (x:iF):Int×Int:=lg x.op (bg g x.b) (if x.op>15 then bg g x.c else 0)
def kV (g:jm) (x:iF):jm :=
 if x.op=40 then rC { g with pc:=g.pc+1} x.a x.n else if x.op=41 then rC { g with pc:=g.pc+1} x.a (bg g x.b)else if x.op=42 then { g with pc:=x.a}else
 if x.op=43 then (if bg g x.a≠0 then { g with pc:=x.b}else { g with pc:=g.pc+1})else if x.op=44 then (if bg g x.a=0 then kG g 4 1 else { g with pc:=g.pc+1})else
 if x.op=45 then kG g 3 0 else if (BO g x).2=20 then kG g 4 2 else if (BO g x).2=21 then kG g 4 3 else rC { g with pc:=g.pc+1} x.a (BO g x).1
theorem Az {g:jm} (h:0<=g.pc/\g.pc<64):(cZ g).put [2] (.int (IntKind.i64.wrap (g.pc+1)))=cZ { g with pc:=g.pc+1}:=by
 rw [bK (by omega) (by omega)];exact pO _ _
theorem Le {g:jm} (h:0<=g.pc/\g.pc<64):(cZ { g with pc:=g.pc+1}).put [2] (.int (IntKind.i64.wrap (g.pc+1 - 1)))=cZ g:=by
 rw [bK (by omega) (by omega),pO];congr 1;cases g;simp
theorem Xc (p:aj) (f:fV) (g:jm) (x:iF) (hf:wG p f) (hx:C9 p f x) (hl:nK x.op=true) (hg:Ap g) (j:0<=g.pc/\g.pc<64):AC Tryz.prog T aJ 205 [cZ g,aT x] [] (cZ (kV g x)) []:=by
 refine aX Tryz.func205 ?_;have hr:=hf.regs;have a8:g.regs.length=8:=hg;have b0:(1<=x.op/\x.op<=36)\/(40<=x.op/\x.op<=45):=by simp [nK]at hl;omega
 have hn:=hx.num;have y:=hx.num2;have hc:=hx.const;have hm:=hx.move;have hj:=hx.jump;have a6:=hx.cond;simp only [iQ,aZ]at hn y hc hm hj a6;refine sg rfl (sg rfl ?_);refine sq (sq ?_);refine WP.ent (st':=aN [(3,.rp 120 (aT x)),(2,.ptr (.s 2 0) 1 0 []),(4,.ptr (.s 4 0) 1 0 [])] [(.s 2 0,.cells ⟨59,1,λ_=>cZ { g with pc:=g.pc+1},0⟩),(.s 4 0,.cells ⟨59,1,λ_=>(T 59).zero,0⟩)]) (em [(.s 3 0,1)] ⟨sF,tt⟩ ⟨rq,cq,cq,tt⟩ ⟨obs rfl (hg:=q0 (ah (Az j))),obs rfl,tt⟩) ?_;refine rg [] rfl (bk (sq (rg [] rfl ?_)));refine cd rfl (λo=>?_) (λo=>?_)
 ·(have e:x.op=40:=by simpa using o);have:=hc (.inl e);refine rgs [] rfl ?_ ?_;{simp [-List.getD_eq_getElem?_getD,ay,under];omega};refine sg rfl (rX ?_);refine aY hT rfl rfl rfl rfl rfl (ah ?_) rfl rfl rfl;rw [kV,aaI e];exact kM _ (by show x.a.toNat<g.regs.length;omega)
 (have k:x.op≠40:=by simpa using o);refine sg rfl (cd rfl (λq=>?_) (λq=>?_));{(have e:x.op=41:=by simpa using q);have:=hm e;refine drs [] rfl ?_ ?_;{simp [-List.getD_eq_getElem?_getD,ay,under];omega};refine sg rfl (rX ?_);refine aY hT rfl rfl rfl rfl rfl (ah ?_) rfl rfl rfl;rw [kV,Y0 k,aaI e];exact kM _ (by show x.a.toNat<g.regs.length;omega)};(have l:x.op≠41:=by simpa using q);refine sg rfl (cd rfl (λr=>?_) (λr=>?_));{(have e:x.op=42:=by simpa using r);refine rg [] rfl (sg rfl ?_);refine rX ?_;refine aY hT rfl rfl rfl rfl rfl (ah ?_) rfl rfl rfl;rw [kV,Y0 k,Y0 l,aaI e];exact pO _ _};(have m:x.op≠42:=by simpa using r);refine sg rfl (cd rfl (λt=>?_) (λt=>?_));{(have e:x.op=43:=by simpa using t);have:=hc (.inr (.inr (.inr (.inr e))));refine sq (rgs [] rfl ?_ ?_);{simp [-List.getD_eq_getElem?_getD,ay,under];omega};refine cd rfl (λh=>?_) (λh=>?_);{(have d:bg g x.a≠0:=by simp [-List.getD_eq_getElem?_getD]at h;exact h);refine rg [] rfl (sg rfl ?_);refine rX ?_;refine aY hT rfl rfl rfl rfl rfl (ah ?_) rfl rfl rfl;rw [kV,Y0 k,Y0 l,Y0 m,aaI e,aaI d];exact pO _ _};(have d:¬ bg g x.a≠0:=by simp [-List.getD_eq_getElem?_getD]at h;simpa using h);refine sk (sq (rg [] rfl ?_));refine rX ?_;refine aY hT rfl rfl rfl rfl rfl (ah ?_) rfl rfl rfl;rw [kV,Y0 k,Y0 l,Y0 m,aaI e,Y0 d];rfl};(have w:x.op≠43:=by simpa using t);refine sg rfl (cd rfl (λu=>?_) (λu=>?_));{(have e:x.op=44:=by simpa using u);have:=hc (.inr (.inl e));refine sq (rgs [] rfl ?_ ?_);{simp [-List.getD_eq_getElem?_getD,ay,under];omega};refine cd rfl (λi=>?_) (λi=>?_);{(have d:bg g x.a=0:=by simp [-List.getD_eq_getElem?_getD]at i;exact i);refine sg rfl (sq ?_);refine wE [(2,.ptr (.s 2 0) 1 0 []),(4,.ptr (.s 4 0) 1 0 [])] [(.s 2 0,.cells ⟨59,1,λ_=>cZ g,0⟩),(.s 4 0,.cells ⟨59,1,λ_=>(T 59).zero,0⟩)] ⟨obs rfl (hg:=q0 (ah (Le j))),obs rfl,tt⟩ (rgs [CG.pure (cZ (kG g 4 1))] rfl ?_ ?_);{have hq:=Fj g 4 1;exact au};refine rX ?_;refine aY hT rfl rfl rfl rfl rfl (ah ?_) rfl rfl rfl;rw [kV,Y0 k,Y0 l,Y0 m,Y0 w,aaI e,aaI d];rfl};(have d:¬ bg g x.a=0:=by simp [-List.getD_eq_getElem?_getD]at i;exact i);refine sk (sq (rg [] rfl ?_));refine rX ?_;refine aY hT rfl rfl rfl rfl rfl (ah ?_) rfl rfl rfl;rw [kV,Y0 k,Y0 l,Y0 m,Y0 w,aaI e,Y0 d];rfl};(have z:x.op≠44:=by simpa using u);refine sg rfl (cd rfl (λv=>?_) (λv=>?_));{(have e:x.op=45:=by simpa using v);refine sg rfl (sq ?_);refine wE [(2,.ptr (.s 2 0) 1 0 []),(4,.ptr (.s 4 0) 1 0 [])] [(.s 2 0,.cells ⟨59,1,λ_=>cZ g,0⟩),(.s 4 0,.cells ⟨59,1,λ_=>(T 59).zero,0⟩)] ⟨obs rfl (hg:=q0 (ah (Le j))),obs rfl,tt⟩ (rgs [CG.pure (cZ (kG g 3 0))] rfl ?_ ?_);{have hq:=Fj g 3 0;exact au};refine rX ?_;refine aY hT rfl rfl rfl rfl rfl (ah ?_) rfl rfl rfl;rw [kV,Y0 k,Y0 l,Y0 m,Y0 w,Y0 z,aaI e];rfl};(have e5:x.op≠45:=by simpa using v);have:=hn (by omega);refine sg rfl (WP.seqJ (α:=Unit) (λ_=>aN [(2,.ptr (.s 2 0) 1 0 []),(3,.rp 120 (aT x)),(4,.ptr (.s 4 0) 1 0 []),(5,.int (if x.op>15 then bg g x.c else 0))] [(.s 2 0,.cells ⟨59,1,λ_=>cZ { g with pc:=g.pc+1},0⟩),(.s 4 0,.cells ⟨59,1,λ_=>(T 59).zero,0⟩)]) (λ_=>True) ?_ ?_);{refine sg rfl (cd rfl (λh4=>?_) (λh4=>?_));{(have a2:x.op>15:=by simpa using h4);have:=y (by omega);refine rgs [] rfl ?_ ?_;{simp [-List.getD_eq_getElem?_getD,ay,under];omega};refine ⟨(),?_,?_⟩;{trivial};refine eX ⟨cq,cq,cq,⟨rfl,_,rfl,ah (by rw [aaI a2])⟩,tt⟩ ⟨obs rfl,obs rfl,tt⟩};refine sk ⟨(),?_,?_⟩;{trivial};refine eX ⟨cq,cq,cq,⟨rfl,_,rfl,ah (by rw [Y0 (by simpa using h4)])⟩,tt⟩ ⟨obs rfl,obs rfl,tt⟩};rintro _ a5;refine sq (drs [CG.pure (.tup [.int (BO g x).1,.int (BO g x).2])] rfl ?_ ?_);{have hq:=Yg x.op (bg g x.b) (if x.op>15 then bg g x.c else 0);exact au};refine sq (sq (rg [] rfl ?_));refine bk (sq (rg [] rfl ?_));refine cd rfl (λh8=>?_) (λh8=>?_);{(have d:(BO g x).2=20:=by simpa using h8);refine sg rfl (sq ?_);refine wE [(2,.ptr (.s 2 0) 1 0 []),(4,.ptr (.s 4 0) 1 0 [])] [(.s 2 0,.cells ⟨59,1,λ_=>cZ g,0⟩),(.s 4 0,.cells ⟨59,1,λ_=>(T 59).zero,0⟩)] ⟨obs rfl (hg:=q0 (ah (Le j))),obs rfl,tt⟩ (rgs [CG.pure (cZ (kG g 4 2))] rfl ?_ ?_);{have hq:=Fj g 4 2;exact au};refine rX ?_;refine aY hT rfl rfl rfl rfl rfl (ah ?_) rfl rfl rfl;rw [kV,Y0 k,Y0 l,Y0 m,Y0 w,Y0 z,Y0 e5,aaI d];rfl};(have d:(BO g x).2≠20:=by simpa using h8);refine sg rfl (cd rfl (λn=>?_) (λn=>?_));{(have hy:(BO g x).2=21:=by simpa using n);refine sg rfl (sq ?_);refine wE [(2,.ptr (.s 2 0) 1 0 []),(4,.ptr (.s 4 0) 1 0 [])] [(.s 2 0,.cells ⟨59,1,λ_=>cZ g,0⟩),(.s 4 0,.cells ⟨59,1,λ_=>(T 59).zero,0⟩)] ⟨obs rfl (hg:=q0 (ah (Le j))),obs rfl,tt⟩ (rgs [CG.pure (cZ (kG g 4 3))] rfl ?_ ?_);{have hq:=Fj g 4 3;exact au};refine rX ?_;refine aY hT rfl rfl rfl rfl rfl (ah ?_) rfl rfl rfl;rw [kV,Y0 k,Y0 l,Y0 m,Y0 w,Y0 z,Y0 e5,Y0 d,aaI hy];rfl};(have hy:(BO g x).2≠21:=by simpa using n);refine sk (rgs [] rfl ?_ ?_);{simp [-List.getD_eq_getElem?_getD,ay,under];omega};refine sg rfl (rX ?_);refine aY hT rfl rfl rfl rfl rfl (ah ?_) rfl rfl rfl;rw [kV,Y0 k,Y0 l,Y0 m,Y0 w,Y0 z,Y0 e5,Y0 d,Y0 hy];exact kM _ (by show x.a.toNat<g.regs.length;omega)
abbrev JU (F:fV) (g:jm):iF:=F.code.getD g.pc.toNat nM
def Bl (F:fV) (g:jm):Bool:=g.status==1&&nK (JU F g).op
def lM (F:fV):Nat->jm->jm
 | 0,g=>if Bl F g then { g with status:=5}else g
 | n+1,g=>if Bl F g then lM F n (kV g (JU F g))else g
def zT (F:fV) (g:jm):Prop:=Ap g/\aZ g.pc F.code.length
theorem KD {p:aj} {F:fV} (hF:wG p F) {n:Int} (h:aZ n F.code.length) (he:uh (F.code.getD n.toNat nM).op=false):aZ (n+1) F.code.length:=by
 have a:=hF.last;have b:=hF.code;unfold aZ at h ⊢;refine ⟨by omega,?_⟩;rcases Int.lt_or_le (n+1) F.code.length with hl | hl
 ·exact hl
 (have e:n.toNat=F.code.length - 1:=by omega);rw [e]at he;unfold yc at a;rw [a]at he;cases he
theorem GV {p:aj} {F:fV} (hF:wG p F) {n:Int} (h:aZ n F.code.length):C9 p F (F.code.getD n.toNat nM):=by
 unfold aZ at h;have a:n.toNat<F.code.length:=by omega
 rw [aaS,aaF a];exact hF.ins _ (abZ a)
theorem BR {p:aj} {F:fV} (hF:wG p F) {g:jm} (hg:zT F g) (hl:nK (JU F g).op=true):zT F (kV g (JU F g))/\(kV g (JU F g)).func=g.func:=by
 obtain ⟨d,c⟩:=hg;have hi:=GV hF c;have hn:(JU F g).op≠42->(JU F g).op≠45->aZ (g.pc+1) F.code.length:=λa b=>KD hF c (by
  have:(JU F g).op≠61:=by simp [-List.getD_eq_getElem?_getD,nK]at hl;omega
  simp only [uh,ac0,abL]
  exact ⟨⟨a,b⟩,this⟩)
 have f:∀ r v,Ap (rC { g with pc:=g.pc+1} r v):=λr v=>by show (g.regs.set _ _).length=8;rw [acu];exact d
 unfold kV;split
 ·rename_i e;exact ⟨⟨f _ _,hn (by omega) (by omega)⟩,rfl⟩
 split
 ·rename_i e;exact ⟨⟨f _ _,hn (by omega) (by omega)⟩,rfl⟩
 split
 ·rename_i e;exact ⟨⟨d,hi.jump e⟩,rfl⟩
 split
 ·rename_i e;split;{exact ⟨⟨d,hi.cond e⟩,rfl⟩};exact ⟨⟨d,hn (by omega) (by omega)⟩,rfl⟩
 split
 ·rename_i e;split;{exact ⟨⟨rfl,c⟩,rfl⟩};exact ⟨⟨d,hn (by omega) (by omega)⟩,rfl⟩
 split
 ·exact ⟨⟨rfl,c⟩,rfl⟩
 split
 ·exact ⟨⟨rfl,c⟩,rfl⟩
 split
 ·exact ⟨⟨rfl,c⟩,rfl⟩
 exact ⟨⟨f _ _,hn (by assumption) (by assumption)⟩,rfl⟩
theorem J5 {p:aj} {F:fV} (hF:wG p F):∀ {n:Nat} {g:jm},zT F g->zT F (lM F n g)/\(lM F n g).func=g.func
 | 0,g,h=>by rw [lM];split;{exact ⟨⟨h.1,h.2⟩,rfl⟩};exact ⟨h,rfl⟩
 | n+1,g,h=>by rw [lM];split;{rename_i e;(have hl:nK (JU F g).op=true:=by have a:=e;rw [Bl,aa3]at a;exact a.2);obtain ⟨b,c⟩:=BR hF h hl;obtain ⟨a,d⟩:=J5 hF (n:=n) b;exact ⟨a,d.trans c⟩};exact ⟨h,rfl⟩
theorem FH:(T 59).zero=cZ go0:=ab5 (λz=>bI 59 [.int 0,.int 0,.int 0,.int 0,z]) (FI _)
theorem UW (t:Nat):(AV.agg t 4 λ_=>AV.int 0)=kX t 4 .i64 [0,0,0,0]:=bP λi=>by match i with | 0 | 1 | 2 | 3=>rfl | i+4=>rfl
theorem ZT:(T 56).zero=dS AU:=ab5 (λz=>bI 56 [z,.int 0,.bool false,.int 0,.int 0,.int 0]) (UW _)
theorem zeroS:(T 62).zero=encS st0:=by
 have a:(AV.agg 57 4 λ_=>(T 56).zero)=yx 57 4 dS AU st0.chans:=bP λi=>by rw [ZT];match i with | 0 | 1 | 2 | 3=>rfl | i+4=>rfl
 have b:(AV.agg 60 6 λ_=>(T 59).zero)=yx 60 6 cZ go0 st0.gos:=bP λi=>by rw [FH];match i with | 0 | 1 | 2 | 3 | 4 | 5=>rfl | i+6=>rfl
 show bI 62 [.agg 52 8 λ_ => .int 0,.agg 53 4 λ_ => .int 0,.agg 57 4 λ_=>(T 56).zero,.agg 60 6 λ_=>(T 59).zero,.int 0]=_;rw [a,b,FI,UW];rfl
theorem He (n:Int):AC Tryz.prog T aJ 142 [.int n] [] (.bool (decide (0<=n/\n<=4096))) []:=by
 refine aX Tryz.func142 ?_;refine sg rfl (sg rfl ?_);refine rX ?_;refine fin1 hT (by rfl) ?_;simp only [band];rw [abT];simp
theorem FY (p:aj) (g:jm) (n:Nat) (hp:qy p) (hb:aZ g.func p.funcs.length) (hg:zT (bM p g) g) (hn:n<=4096):AC Tryz.prog T aJ 143 [ak p,cZ g,.int n] [] (cZ (lM (bM p g) n g)) []:=by
 refine aX Tryz.func143 ?_;have hF:wG p (bM p g):=hp.fn _ (by
  unfold aZ at hb
  rw [bM,aaS,aaF (show g.func.toNat<p.funcs.length by omega)]
  exact abZ _)
 have h:=hF.code;refine sg rfl (sq (rgs [] rfl ?_ ?_))
 ·unfold aZ at hb;simp [-List.getD_eq_getElem?_getD,ay,under];omega
 refine sq (bk ?_);refine WP.loop (α:=Nat×jm) (λ(⟨k,x⟩:Nat×jm)=>aN [(2,.int k),(4,.ptr (.s 4 0) 1 0 []),(6,.ptr (.s 6 0) 1 0 []),(7,rowP 120 aT nM (bM p g).code)] [(.s 4 0,.cells ⟨59,1,λ_=>cZ x,0⟩),(.s 6 0,.cells ⟨59,1,λ_=>(T 59).zero,0⟩)]) (λ(⟨k,x⟩:Nat×jm)=>lM (bM p g) k x=lM (bM p g) n g/\zT (bM p g) x/\k<=n) (λ(⟨k,x⟩:Nat×jm)=>k) ?_ ?_
 ·refine ⟨⟨n,g⟩,?_,?_⟩;{exact ⟨rfl,hg,aa1 _⟩};refine eX cX ⟨obs rfl,obs rfl,tt⟩
 rintro ⟨k,x⟩ ⟨e,hx,hk⟩;have f:=hx.2;simp only [aZ]at f;refine sq (sq (rgs [CG.pure (.bool (nK (JU (bM p g) x).op))] rfl ?_ ?_));{have i:=Jh (JU (bM p g) x).op;exact au};refine cd rfl (λc=>?_) (λc=>?_);{(have b:Bl (bM p g) x=true:=by simp only [band]at c;exact c);(have hl:nK (JU (bM p g) x).op=true:=by have a:=b;rw [Bl,aa3]at a;exact a.2);have hi:=GV hF hx.2;refine sk (bk (sq (sq (rg [] rfl ?_))));refine cd rfl (λa=>?_) (λa=>?_);{(have d:k=0:=by simp at a;omega);subst d;refine sg rfl (sg rfl ?_);refine rX ?_;refine aY hT rfl rfl rfl rfl rfl (ah ?_) rfl rfl rfl;rw [<- e,lM,aaI b];exact gu _ _};(have d:0<k:=by simp at a;omega);obtain ⟨j,rfl⟩:∃ j,k=j+1:=⟨k - 1,by omega⟩;refine sk (sq (rg [] rfl ?_));refine drs [CG.pure (cZ (kV x (JU (bM p g) x)))] rfl ?_ ?_;{have i:=Xc p (bM p g) x (JU (bM p g) x) hF hi hl hx.1 (by omega);exact au};refine ⟨⟨j,kV x (JU (bM p g) x)⟩,?_,?_,?_⟩;{rw [lM,aaI b]at e;exact ⟨e,(BR hF hx hl).1,by omega⟩};{refine eX ⟨⟨rfl,_,rfl,ah (by rw [bK (by omega) (by omega)];simp)⟩,cq,cq,cq,tt⟩ ⟨obs rfl,obs rfl,tt⟩};(try simp only []);first | omega | grind};(have b:Bl (bM p g) x=false:=by simp only [band]at c;exact c);refine xt (sq (rg [] rfl ?_));refine rX ?_;refine aY hT rfl rfl rfl rfl rfl (ah ?_) rfl rfl rfl;rw [<- e];cases k with| zero=>rw [lM,Y0 (by rw [b];decide)];rfl| succ j=>rw [lM,Y0 (by rw [b];decide)];rfl
def lF (p:aj) (i:Nat):List Int:=(List.range 8).map λk=>if k<i then (p.vars.getD k LK).init else 0
theorem Aw (p:aj) (i:Nat):(lF p i).length=8:=by simp [lF]
theorem GY {p:aj} {i:Nat} (h:i<8):(lF p i).set i (p.vars.getD i LK).init=lF p (i+1):=by
 refine List.ext_getElem (by simp [lF]) λk b a=>?_;have hk:k<8:=by simpa [lF]using a
 rw [List.getElem_set];simp only [lF,adL,ady];split
 ·subst_vars;rw [aaI (by omega)]
 by_cases e:k<i;{rw [aaI e,aaI (by omega)]};rw [Y0 e,Y0 (by omega)]
def live0:jm:={ go0 with status:=1}
def OG (p:aj) (n:Nat):bW:={ st0 with vars:=lF p p.vars.length,gos:=[lM (aV p 0) n live0,go0,go0,go0,go0,go0],count:=1}
def aP (p:aj) (n:Int):bW×Int:=if dX p=false then (st0,3)else if ¬ (0<=n/\n<=4096)then (st0,1)else (OG p n.toNat,0)
theorem Xo {p:aj} (hp:qy p):zT (aV p 0) live0:=⟨rfl,by have:=(hp.fn (aV p 0) (by rw [aV,aaS,aaF (show 0<p.funcs.length by have:=hp.funcs;omega)];exact abZ _)).code;exact ⟨by decide,by show (0:Int)<_;omega⟩⟩
theorem FV (p:aj) (n:Int):AC Tryz.prog T aJ 101 [ak p,.int n] [] (.tup [encS (aP p n).1,.int (aP p n).2]) []:=by
 refine aX Tryz.func101 ?_;refine sg rfl (sq (sq (rgs [CG.pure (.bool (dX p))] rfl ?_ ?_)))
 ·have f:=Dk p;exact au
 refine cd rfl (λc=>?_) (λc=>?_)
 ·(have a:dX p=false:=by simpa using c);refine sg rfl (rX ?_);exact qc hT rfl rfl rfl (ah (by rw [aP,aaI a];exact zeroS)) (by rw [aP,aaI a])
 (have a:dX p=true:=by simpa using c);have hp:=jZ a;refine sk (sq (sq (rgs [CG.pure (.bool (decide (0<=n/\n<=4096)))] rfl ?_ ?_)));{have f:=He n;exact au};refine cd rfl (λd=>?_) (λd=>?_);{(have hf:¬ (0<=n/\n<=4096):=by simp at d;omega);refine sg rfl (rX ?_);exact qc hT rfl rfl rfl (ah (by rw [aP,Y0 (by simp [a]),aaI hf];exact zeroS)) (by rw [aP,Y0 (by simp [a]),aaI hf])};(have hf:0<=n/\n<=4096:=by simpa using d);obtain ⟨k,rfl⟩:=adF hf.1;have j:=hp.vars;(have g:(T 62).zero.put [4] (.int 1)=encS { st0 with count:=1,vars:=lF p 0}:=by rw [zeroS,wY];rfl);refine sk (sq (rg [] rfl ?_));refine sq (sq (rg [] rfl ?_));refine bk (WP.loop (α:=Nat) (λi=>aN [(1,.int k),(2,.rp 26 (ak p)),(4,.ptr (.s 4 0) 1 0 []),(6,.ptr (.s 6 0) 1 0 []),(19,rowP 116 Lc LK p.vars),(20,.int p.vars.length),(21,.int i)] [(.s 4 0,.cells ⟨62,1,λ_=>(T 62).zero,0⟩),(.s 6 0,.cells ⟨62,1,λ_=>encS { st0 with count:=1,vars:=lF p i},0⟩)]) (λi=>i<=p.vars.length) (λi=>p.vars.length - i) ?_ ?_);{refine ⟨0,?_,?_⟩;{exact abr _};refine em [(.s 2 0,1)] ⟨sF,tt⟩ ⟨cq,rq,cq,cq,cq,cq,cq,tt⟩ ⟨obs rfl,obs rfl (hg:=q0 (ah g)),tt⟩};rintro i hi;refine sg rfl (sq ?_);refine cd rfl (λe=>?_) (λe=>?_);{(have b:i<p.vars.length:=by simp [-List.getD_eq_getElem?_getD]at e;omega);refine sk (sq (bk (sq (rgs [] rfl ?_ ?_))));{simp [-List.getD_eq_getElem?_getD,ay,under];omega};refine rgs [] rfl ?_ ?_;{simp [-List.getD_eq_getElem?_getD,ay,under];omega};refine rg [] rfl ⟨i+1,?_,?_,?_⟩;{exact b};{refine eX cX ⟨obs rfl,obs rfl (hg:=q0 (ah ((vJ _ (by show _<(lF p i).length;rw [Aw];omega)).trans (by simp only [ab6];rw [GY (by omega)])))),tt⟩};(try simp only []);first | omega | grind};(have b:i=p.vars.length:=by simp [-List.getD_eq_getElem?_getD]at e;omega);subst b;(have h:(T 59).zero.put [0] (.int 1)=cZ live0:=by rw [FH];exact gu _ _);refine xt (sq (rgs [CG.pure (cZ (lM (aV p 0) k live0))] rfl ?_ ?_));{have f:=FY p live0 k hp ⟨by decide,by have:=hp.funcs;show (0:Int)<_;omega⟩ (Xo hp) (by omega);rw [<- h]at f;exact au};refine sg rfl (rX ?_);refine qc hT rfl rfl rfl (ah ?_) (by rw [aP,Y0 (by simp [a]),Y0 (by simp;omega)]);rw [aP,Y0 (by simp [a]),Y0 (by simp;omega)];exact mQ (by show 0<6;omega) rfl
def bY (p:aj) (s:bW) (g n:Int):bW×Int :=
 if dX p=false then (st0,3)else if ¬ dG p s then (st0,4)else if ¬ ((0<=g/\g<6)/\(0<=n/\n<=4096))then (st0,1)else if s.count<=g then (st0,9)else
 if (goI s g).status=1\/(goI s g).status=5 then ({ s with gos:=s.gos.set g.toNat (lM (bM p (goI s g)) n.toNat { goI s g with status:=1}) },0)else (s,0)
theorem Td (p:aj) (s:bW) (g n:Int) (t:mZ s):AC Tryz.prog T aJ 234 [ak p,encS s,.int g,.int n] [] (.tup [encS (bY p s g n).1,.int (bY p s g n).2]) []:=by
 refine aX Tryz.func234 ?_;refine sg rfl (sq (sq ?_));refine WP.ent (st':=aN [(4,.rp 26 (ak p)),(2,.int g),(3,.int n),(5,.ptr (.s 5 0) 1 0 []),(8,.ptr (.s 8 0) 1 0 [])] [(.s 5 0,.cells ⟨62,1,λ_=>encS s,0⟩),(.s 8 0,.cells ⟨62,1,λ_=>(T 62).zero,0⟩)]) (em [(.s 4 0,1)] ⟨sF,tt⟩ ⟨rq,cq,cq,cq,cq,tt⟩ ⟨obs rfl,obs rfl,tt⟩) ?_;refine rgs [CG.pure (.bool (dX p))] rfl ?_ ?_
 ·have m:=Dk p;exact au
 refine cd rfl (λo=>?_) (λo=>?_)
 ·(have j:dX p=false:=by simpa using o);refine sg rfl (rX ?_);exact qc hT rfl rfl rfl (ah (by rw [bY,aaI j];exact zeroS)) (by rw [bY,aaI j])
 (have j:dX p=true:=by simpa using o);have hp:=jZ j;(have hr0:¬ dX p=false:=by simp [j]);refine sk (sq (sq (rgs [CG.pure (.bool (decide (dG p s)))] rfl ?_ ?_)));{have m:=LM p s t;exact au};refine cd rfl (λq=>?_) (λq=>?_);{(have l:¬ dG p s:=by simpa using q);refine sg rfl (rX ?_);exact qc hT rfl rfl rfl (ah (by rw [bY,Y0 hr0,aaI l];exact zeroS)) (by rw [bY,Y0 hr0,aaI l])};(have l:dG p s:=by simpa using q);have b:¬ ¬ dG p s:=λh=>h l;refine sk (sq (sq (rgs [CG.pure (.bool (decide (0<=n/\n<=4096)))] rfl ?_ ?_)));{have m:=He n;exact au};refine cd rfl (λf=>?_) (λf=>?_);{(have i:¬ ((0<=g/\g<6)/\(0<=n/\n<=4096)):=by simp only [fM]at f;simp at f;omega);refine sg rfl (rX ?_);exact qc hT rfl rfl rfl (ah (by rw [bY,Y0 hr0,Y0 b,aaI i];exact zeroS)) (by rw [bY,Y0 hr0,Y0 b,aaI i])};(have i:(0<=g/\g<6)/\(0<=n/\n<=4096):=by simp only [fM]at f;simp at f;omega);have c:¬ ¬ ((0<=g/\g<6)/\(0<=n/\n<=4096)):=λh=>h i;refine sk (sq (sq (rg [] rfl ?_)));refine cd rfl (λr=>?_) (λr=>?_);{(have hc:s.count<=g:=by simpa using r);refine sg rfl (rX ?_);exact qc hT rfl rfl rfl (ah (by rw [bY,Y0 hr0,Y0 b,Y0 c,aaI hc];exact zeroS)) (by rw [bY,Y0 hr0,Y0 b,Y0 c,aaI hc])};(have hc:¬ s.count<=g:=by simpa using r);have v:=t.gos;refine sk (sq (sq (rgs [] rfl ?_ ?_)));{simp [-List.getD_eq_getElem?_getD,ay,under];omega};refine sg rfl (cd rfl (λa=>?_) (λa=>?_));{(have d:(goI s g).status=1\/(goI s g).status=5:=by simp only [fM]at a;simp [-List.getD_eq_getElem?_getD]at a;exact a);have e:=(l.2.2.2.2.1 g.toNat (by omega)).1 (by omega);have u:(cZ (goI s g)).put [0] (.int 1)=cZ { goI s g with status:=1}:=gu _ _;obtain ⟨k,rfl⟩:=adF i.2.1;refine sg rfl (rgs [CG.pure (cZ (lM (bM p (goI s g)) k { goI s g with status:=1}))] rfl ?_ ?_);{have m:=FY p { goI s g with status:=1} k hp e.2.1 ⟨gW t _,e.2.2.1⟩ (by omega);rw [<- u]at m;exact au};refine sg rfl (rX ?_);refine qc hT rfl rfl rfl (ah ?_) (by rw [bY,Y0 hr0,Y0 b,Y0 c,Y0 hc,aaI d]);rw [bY,Y0 hr0,Y0 b,Y0 c,Y0 hc,aaI d];exact mQ (by omega) (Ri _ _)};(have d:¬ ((goI s g).status=1\/(goI s g).status=5):=by simp only [fM]at a;simp [-List.getD_eq_getElem?_getD]at a;exact λh=>h.elim a.1 a.2);refine sk (sq (rg [] rfl ?_));refine rX ?_;refine qc hT rfl rfl rfl (ah ?_) (by rw [bY,Y0 hr0,Y0 b,Y0 c,Y0 hc,Y0 d]);rw [bY,Y0 hr0,Y0 b,Y0 c,Y0 hc,Y0 d];rfl
theorem bZ {α:Type} (l:List α) (x:α):(l++[x]).length=l.length+1:=by simp
def qw (g:jm):Bool:=g.status==1||g.status==2
def kW (s:bW):Nat->List Int
 | 0=>[]
 | k+1=>kW s k++(if qw (s.gos.getD k go0)=true then [(k:Int)]else [])
abbrev iy (s:bW):List Int:=kW s 6
theorem sZ (s:bW):∀ k,(kW s k).length<=k
 | 0=>aa1 _
 | k+1=>by have:=sZ s k;rw [kW,acn];split <;> simp <;> omega
theorem sW {s:bW} {x:Int}:∀ {k:Nat},x∈kW s k ↔ ∃ j:Nat,j<k/\x=j/\qw (s.gos.getD j go0)=true
 | 0=>by simp [kW]
 | k+1=>by rw [kW,adO,sW];constructor;{rintro (⟨j,c,a,b⟩ | h);{exact ⟨j,by omega,a,b⟩};split at h;{rename_i hb;exact ⟨k,by omega,by simpa using h,hb⟩};cases h};rintro ⟨j,c,a,b⟩;by_cases e:j=k;{subst e;exact .inr (by rw [aaI b];simpa using a)};exact .inl ⟨j,by omega,a,b⟩
theorem Y8 (s:bW):AC Tryz.prog T aJ 115 [encS s] [] (ints false (iy s)) []:=by
 refine aX Tryz.func115 ?_;refine sg rfl (sg rfl ?_);refine sq (sq (rg [] rfl ?_));refine bk (WP.loop (α:=Nat) (λv=>aN [(3,.own (.s 23 0) (kW s v).length 0 (kW s v).length none),(7,yx 60 6 cZ go0 s.gos),(8,.int v)] [(.s 23 0,kH 3 .i64 (kW s v))]) (λv=>v<=6) (λv=>6 - v) ?_ ?_)
 ·refine ⟨0,?_,?_⟩;{omega};refine eX ⟨⟨rfl,_,rfl,gB⟩,cq,cq,tt⟩ ⟨⟨λ_ _=>rfl,.inr ⟨rfl,3,_,rfl,by decide⟩⟩,tt⟩
 rintro v f;refine sg rfl (sq ?_);refine cd rfl (λc=>?_) (λc=>?_);{(have b:v<6:=by simp [-List.getD_eq_getElem?_getD]at c;omega);have hlen:=sZ s v;refine sk (sq (bk (sq (rgs [] rfl ?_ ?_))));{simp [-List.getD_eq_getElem?_getD,ay,under];omega};refine sg rfl (cd rfl (λa=>?_) (λa=>?_));{(have hb:qw (s.gos.getD v go0)=true:=by simp only [fM,ab6]at a;exact a);refine rgs [] rfl ?_ ?_;{have d:(T 3).bytes=8:=rfl;simp [ay,under,d];omega};refine rg [] rfl ⟨v+1,?_,?_,?_⟩;{omega};{refine eX ⟨⟨rfl,_,rfl,ah (by rw [kW,aaI hb,bZ])⟩,cq,cq,tt⟩ ⟨pV rfl rfl (by rw [kW,aaI hb,bZ]) rfl rfl (by rw [kW,aaI hb];exact app1 (z:=(T 3).zero) rfl (λq e=>rfl)),tt⟩};(try simp only []);first | omega | grind};(have hb:qw (s.gos.getD v go0)=false:=by simp only [fM,ab6]at a;exact a);refine sk (rg [] rfl ?_);refine ⟨v+1,?_,?_,?_⟩;{omega};{refine eX ⟨⟨rfl,_,rfl,ah (by rw [kW,Y0 (by rw [hb];decide),acB])⟩,cq,cq,tt⟩ ⟨pV rfl rfl (by rw [kW,Y0 (by rw [hb];decide),acB]) rfl rfl (λq e=>by rw [kW,Y0 (by rw [hb];decide),acB]),tt⟩};(try simp only []);first | omega | grind};(have b:v=6:=by simp [-List.getD_eq_getElem?_getD]at c;omega);subst b;refine xt (sq (rg [] rfl ?_));refine rX ?_;refine aH hT [(.s 23 0,(iy s).length)] (ts:=[(2,ints false (iy s))]) (l:=[ints false (iy s)]) ⟨⟨_,rfl,aa1 _⟩,tt⟩ ⟨⟨rfl,_,rfl,?_⟩,tt⟩ trivial rfl rfl rfl;exact gZ rfl rfl rfl (λh=>by cases h) (by simp [dL,aQ]) (λq e=>by rw [ab1];exact ⟨rfl,wJ.refl _⟩)
theorem L6 (s:bW) (g:Int) (hg:0<=g/\g<6):AC Tryz.prog T aJ 158 [encS s,.int g] [] (.bool (qw (goI s g))) []:=by
 refine aX Tryz.func158 ?_;refine sg rfl (sq ?_);refine WP.ent (st':=aN [(2,.rp 62 (encS s)),(1,.int g)] []) (em [(.s 2 0,1)] ⟨sF,tt⟩ ⟨rq,cq,tt⟩ trivial) ?_;refine rgs [] rfl ?_ ?_
 ·simp [-List.getD_eq_getElem?_getD,ay,under];omega
 refine rX ?_;exact fin1 hT (by rfl) (by rw [fM];rfl)
structure eH (p:aj) (s:bW) (g:Int):Prop where
 ok:mZ s
 valid:dG p s
 live:qw (goI s g)=true
 pos:0<=g/\g<6
theorem eH.prog {p:aj} {s:bW} {g:Int} (h:eH p s g):qy p:=jZ h.valid.1
theorem eH.lt {p:aj} {s:bW} {g:Int} (h:eH p s g):g<s.count:=by
 rcases Int.lt_or_le g s.count with b | b
 ·exact b
 have c:=(h.valid.2.2.2.2.1 g.toNat (by have:=h.pos;omega)).2 (by have:=h.pos;omega);have a:=h.live;unfold goI at a;rw [c]at a;cases a
theorem eH.fit {p:aj} {s:bW} {g:Int} (h:eH p s g):oL p (goI s g):=(h.valid.2.2.2.2.1 g.toNat (by have:=h.pos;omega)).1 (by have:=h.pos;have:=h.lt;omega)
theorem eH.fn {p:aj} {s:bW} {g:Int} (h:eH p s g):wG p (bM p (goI s g)):=h.prog.fn _ (by
 have:=h.fit.2.1;unfold aZ at this;rw [bM,aaS,aaF (show (goI s g).func.toNat<p.funcs.length by omega)];exact abZ _)
theorem eH.ins {p:aj} {s:bW} {g:Int} (h:eH p s g):C9 p (bM p (goI s g)) (insOf p (goI s g)):=GV h.fn h.fit.2.2.1
theorem NC {p:aj} {s:bW} {g:Int}:∀ {c:Nat},uf p s g c≠0 -> ∃ k,k<c/\k<p.chans.length/\(bG s k).offer≠0/\(bG s k).frm=g
 | c+1,h=>by rw [uf]at h;split at h;{rename_i e;exact ⟨c,by omega,e.1,e.2.1,e.2.2⟩};obtain ⟨k,b,a⟩:=NC (c:=c) (by simpa using h);exact ⟨k,by omega,a⟩
theorem eH.wait {p:aj} {s:bW} {g:Int} (h:eH p s g) (hw:(goI s g).status=2):(insOf p (goI s g)).op=58 /\ ∃ k:Nat,k<p.chans.length/\(insOf p (goI s g)).a=k/\(bG s k).offer≠0/\(bG s k).frm=g:=by
 have hp:=h.pos;have i:=h.valid.2.2.2.2.2.2 g.toNat (by omega) hw;obtain ⟨k,j,d,e,f⟩:=NC (c:=4) (by rw [i];decide);have b:=((h.valid.2.2.2.2.2.1 k j).1 d).2.2.2.2.2.2 e;rw [f]at b;rw [adu hp.1]at b;exact ⟨b.2.2.2.1,k,d,b.2.2.2.2,e,by rw [f];exact adu hp.1⟩
def aU (p:aj) (s:bW) (g:Int):iF:=if (goI s g).status=2 then { insOf p (goI s g)with op:=66}else insOf p (goI s g)
theorem TQ (x:iF) (n:Int):(aT x).put [0] (.int n)=aT { x with op:=n}:=dB (abJ rfl)
theorem SA (p:aj) (s:bW) (g:Int) (h:eH p s g):AC Tryz.prog T aJ 131 [ak p,encS s,.int g] [] (aT (aU p s g)) []:=by
 refine aX Tryz.func131 ?_;refine sg rfl (sq ?_);refine WP.ent (st':=aN [(3,.rp 26 (ak p)),(4,.rp 62 (encS s)),(2,.int g),(6,.ptr (.s 6 0) 1 0 [])] [(.s 6 0,.cells ⟨120,1,λ_=>(T 120).zero,0⟩)]) (em [(.s 3 0,1),(.s 4 0,1)] ⟨sF,sF,tt⟩ ⟨rq,rq,cq,cq,tt⟩ ⟨obs rfl,tt⟩) ?_;refine drs [] rfl ?_ ?_
 ·have b:=h.pos;have a:=h.fit.2.1;have c:=h.fit.2.2.1;simp only [aZ,bM,goI]at a c;simp [-List.getD_eq_getElem?_getD,ay,under];omega
 refine sq (sq (rgs [] rfl ?_ ?_))
 ·have b:=h.pos;simp [-List.getD_eq_getElem?_getD,ay,under];omega
 refine cd rfl (λa=>?_) (λa=>?_)
 ·(have hw:(goI s g).status=2:=by simp [-List.getD_eq_getElem?_getD]at a;exact a);refine rg [] rfl (sg rfl ?_);refine rX ?_;exact aY hT rfl rfl rfl rfl rfl (ah (by rw [aU,aaI hw];exact TQ _ _)) rfl rfl rfl
 (have hw:¬ (goI s g).status=2:=by simp [-List.getD_eq_getElem?_getD]at a;exact a);refine sk (sq (rg [] rfl ?_));refine rX ?_;exact aY hT rfl rfl rfl rfl rfl (ah (by rw [aU,Y0 hw];rfl)) rfl rfl rfl
def jM (p:aj) (s:bW) (c:Int):Bool:=(bV s c).closed||(decide (p.chans.getD c.toNat 0>0)&&decide ((bV s c).len<p.chans.getD c.toNat 0))||(p.chans.getD c.toNat 0==0&&(bV s c).offer==0)
def BD (s:bW) (c:Int):Bool:=decide ((bV s c).len>0)||(bV s c).closed||(bV s c).offer==1
theorem MB (p:aj) (s:bW) (c:Int) (hc:aZ c p.chans.length) (a:p.chans.length<=4):AC Tryz.prog T aJ 166 [ak p,encS s,.int c] [] (.bool (jM p s c)) []:=by
 refine aX Tryz.func166 ?_;unfold aZ at hc;refine sg rfl (sq ?_);refine WP.ent (st':=aN [(3,.rp 26 (ak p)),(4,.rp 62 (encS s)),(2,.int c)] []) (em [(.s 3 0,1),(.s 4 0,1)] ⟨sF,sF,tt⟩ ⟨rq,rq,cq,tt⟩ trivial) ?_;refine rgs [] rfl ?_ ?_
 ·simp [-List.getD_eq_getElem?_getD,ay,under];omega
 refine sq (drs [] rfl ?_ ?_)
 ·exact au
 refine rX ?_;exact fin1 hT (by rfl) (by simp only [fM,band];rfl)
theorem Ed (s:bW) (c:Int) (hc:0<=c/\c<4):AC Tryz.prog T aJ 167 [encS s,.int c] [] (.bool (BD s c)) []:=by
 refine aX Tryz.func167 ?_;refine sg rfl (sq ?_);refine WP.ent (st':=aN [(2,.rp 62 (encS s)),(1,.int c)] []) (em [(.s 2 0,1)] ⟨sF,tt⟩ ⟨rq,cq,tt⟩ trivial) ?_;refine rgs [] rfl ?_ ?_
 ·simp [-List.getD_eq_getElem?_getD,ay,under];omega
 refine sg rfl (rX ?_);exact fin1 hT (by rfl) (by simp only [fM,band];rfl)
def jB (s:bW) (g k:Int):Bool:=decide (0<=k/\k<s.count/\k≠g)
theorem FU (s:bW) (g k:Int):AC Tryz.prog T aJ 220 [encS s,.int g,.int k] [] (.bool (jB s g k)) []:=by
 refine aX Tryz.func220 ?_;refine sg rfl (sg rfl ?_);refine rX ?_;refine fin1 hT (by rfl) ?_;simp only [band];rw [abT,jB];simp;omega
def iR (p:aj) (s:bW) (g:Int):Bool :=
 if (aU p s g).op=54 then jo s (aU p s g).a==bg (goI s g) (aU p s g).b else if (aU p s g).op=55 then mg s (aU p s g).a==0 else if (aU p s g).op=58 then jM p s (aU p s g).a else
 if (aU p s g).op=59 then BD s (aU p s g).b else if (aU p s g).op=66 then (bV s (aU p s g).a).offer != 1 else
 if (aU p s g).op=63 then (!jB s g (bg (goI s g) (aU p s g).a) || !qw (goI s (bg (goI s g) (aU p s g).a)))else yh (aU p s g).op
structure AtP (p:aj) (s:bW) (g:Int):Prop where
 await:(aU p s g).op=54->(0<=(aU p s g).a/\(aU p s g).a<8)/\(0<=(aU p s g).b/\(aU p s g).b<8)
 lock:(aU p s g).op=55\/(aU p s g).op=56->0<=(aU p s g).a/\(aU p s g).a<4
 send:(aU p s g).op=58\/(aU p s g).op=60\/(aU p s g).op=66->aZ (aU p s g).a p.chans.length
 recv:(aU p s g).op=59->aZ (aU p s g).b p.chans.length
 join:(aU p s g).op=63\/(aU p s g).op=65->0<=(aU p s g).a/\(aU p s g).a<8
 ins:(aU p s g).op≠66->aU p s g=insOf p (goI s g)
theorem eH.at {p:aj} {s:bW} {g:Int} (h:eH p s g):AtP p s g:=by
 have hp:=h.prog;have m:=hp.vars;have hl:=hp.locks;have l:=h.fn.regs;have hi:=h.ins;by_cases hw:(goI s g).status=2
 ·obtain ⟨i,k,j,c,_⟩:=h.wait hw;(have e:(aU p s g).op=66:=by rw [aU,aaI hw]);(have f:(aU p s g).a=k:=by rw [aU,aaI hw];exact c);refine ⟨λh=>by omega,λh=>by omega,λ_=>?_,λh=>by omega,λh=>by omega,λh=>absurd e h⟩;unfold aZ;omega
 (have e:aU p s g=insOf p (goI s g):=by rw [aU,Y0 hw]);(have b:(insOf p (goI s g)).op≠66:=by intro d;have:=hi.op;rw [d]at this;revert this;decide);rw [<- e]at hi b;refine ⟨λh=>?_,λh=>?_,λh=>?_,λh=>(hi.recv h).2.1,λh=>?_,λ_=>e⟩;{have:=hi.store (.inr h);unfold iQ aZ at this;omega};{have:=hi.lock h;omega};{rcases h with h | h | h;{exact (hi.send h).1};{exact hi.close h};exact absurd h b};have:=hi.const (by omega);unfold iQ at this;omega
theorem SS (p:aj) (s:bW) (g:Int) (h:eH p s g):AC Tryz.prog T aJ 164 [ak p,encS s,.int g] [] (.bool (iR p s g)) []:=by
 refine aX Tryz.func164 ?_;have l:=h.at;have o:=h.pos;have n:=h.prog.chans;have t:=h.valid.2.1.2;refine sg rfl (sq ?_);refine WP.ent (st':=aN [(3,.rp 26 (ak p)),(4,.rp 62 (encS s)),(2,.int g)] []) (em [(.s 3 0,1),(.s 4 0,1)] ⟨sF,sF,tt⟩ ⟨rq,rq,cq,tt⟩ trivial) ?_;refine rgs [CG.pure (aT (aU p s g))] rfl ?_ ?_
 ·have m:=SA p s g h;exact au
 refine sq (WP.ent (st':=aN [(7,.rp 120 (aT (aU p s g))),(2,.int g),(3,.rp 26 (ak p)),(4,.rp 62 (encS s))] []) (em [(.s 7 0,1)] ⟨sF,tt⟩ ⟨rq,cq,cq,cq,tt⟩ trivial) ?_);refine rgs [] rfl ?_ ?_
 ·simp [-List.getD_eq_getElem?_getD,ay,under];omega
 refine sq (sq ?_);refine WP.ent (st':=aN [(8,.rp 52 (kX 52 8 .i64 (goI s g).regs)),(2,.int g),(3,.rp 26 (ak p)),(4,.rp 62 (encS s)),(7,.rp 120 (aT (aU p s g)))] []) (em [(.s 8 0,1)] ⟨sF,tt⟩ ⟨rq,cq,cq,cq,cq,tt⟩ trivial) ?_;refine rg [] rfl (bk (sq (rg [] rfl ?_)));refine cd rfl (λn=>?_) (λn=>?_)
 ·(have c:(aU p s g).op=54:=by simpa using n);have:=l.await c;refine sq (drs [] rfl ?_ ?_);{simp [-List.getD_eq_getElem?_getD,ay,under];omega};exact WP.ret (fin1 hT (by rfl) (by rw [iR,aaI c]))
 (have c:(aU p s g).op≠54:=by simpa using n);refine sg rfl (cd rfl (λo=>?_) (λo=>?_));{(have d:(aU p s g).op=55:=by simpa using o);have:=l.lock (.inl d);refine sq (rgs [] rfl ?_ ?_);{simp [-List.getD_eq_getElem?_getD,ay,under];omega};exact WP.ret (fin1 hT (by rfl) (by rw [iR,Y0 c,aaI d]))};(have d:(aU p s g).op≠55:=by simpa using o);refine sg rfl (cd rfl (λq=>?_) (λq=>?_));{(have f:(aU p s g).op=58:=by simpa using q);refine sq (rgs [CG.pure (.bool (jM p s (aU p s g).a))] rfl ?_ ?_);{have m:=MB p s (aU p s g).a (l.send (.inl f)) h.prog.chans;exact au};exact WP.ret (fin1 hT (by rfl) (by rw [iR,Y0 c,Y0 d,aaI f]))};(have f:(aU p s g).op≠58:=by simpa using q);refine sg rfl (cd rfl (λi=>?_) (λi=>?_));{(have e10:(aU p s g).op=59:=by simpa using i);have hb:=l.recv e10;unfold aZ at hb;refine sq (rgs [CG.pure (.bool (BD s (aU p s g).b))] rfl ?_ ?_);{have m:=Ed s (aU p s g).b (by have:=h.prog.chans;omega);exact au};exact WP.ret (fin1 hT (by rfl) (by rw [iR,Y0 c,Y0 d,Y0 f,aaI e10]))};(have e10:(aU p s g).op≠59:=by simpa using i);refine sg rfl (cd rfl (λj=>?_) (λj=>?_));{(have e12:(aU p s g).op=66:=by simpa using j);have hb:=l.send (.inr (.inr e12));unfold aZ at hb;have:=h.prog.chans;refine sq (rgs [] rfl ?_ ?_);{simp [-List.getD_eq_getElem?_getD,ay,under];omega};exact WP.ret (fin1 hT (by rfl) (by rw [iR,Y0 c,Y0 d,Y0 f,Y0 e10,aaI e12]))};(have e12:(aU p s g).op≠66:=by simpa using j);refine sg rfl (cd rfl (λk=>?_) (λk=>?_));{(have e14:(aU p s g).op=63:=by simpa using k);have hb:=l.join (.inl e14);refine sq (drs [CG.pure (.bool (jB s g (bg (goI s g) (aU p s g).a))),CG.pure (.bool (qw (goI s (bg (goI s g) (aU p s g).a))))] rfl ?_ ?_);{have m:=FU s g (bg (goI s g) (aU p s g).a);have r:jB s g (bg (goI s g) (aU p s g).a)=true->_:=λe=>L6 s (bg (goI s g) (aU p s g).a) (by simp only [jB,abK]at e;omega);simp only [ay,under,CG.pure];(repeat' with_reducible refine And.intro ?_ ?_);(all_goals (try with_reducible intros));all_goals (first | exact trivial | assumption | omega | exact m | (refine r ?_;simp_all;done) | (simp_all;done))};exact WP.ret (fin1 hT (by rfl) (by rw [iR,Y0 c,Y0 d,Y0 f,Y0 e10,Y0 e12,aaI e14,fM]))};(have e14:(aU p s g).op≠63:=by simpa using k);refine sk (sq (rgs [CG.pure (.bool (yh (aU p s g).op))] rfl ?_ ?_));{have m:=Na (aU p s g).op;exact au};exact WP.ret (fin1 hT (by rfl) (by rw [iR,Y0 c,Y0 d,Y0 f,Y0 e10,Y0 e12,Y0 e14]))
def kD (l:List Int) (k:Int) (b:Bool):List Int:=if b then l++[k]else l
def RH (l:List Int):List Ob:=[.cells ⟨23,1,λ_ => .own (.b 1) l.length 0 l.length none,0⟩,kH 3 .i64 l]
theorem RG (l:List Int) (k:Int) (b:Bool) (hl:l.length<=100):AC Tryz.prog T aJ 165 [.int k,.bool b,.ptr (.b 0) 1 0 []] [.cells ⟨23,1,λ_ => .own (.b 1) l.length 0 l.length none,0⟩,kH 3 .i64 l] (.tup []) [.cells ⟨23,1,λ_ => .own (.b 1) (kD l k b).length 0 (kD l k b).length none,0⟩,kH 3 .i64 (kD l k b)]:=by
 refine aX Tryz.func165 ?_;refine sg rfl (cd rfl (λa=>?_) (λa=>?_))
 ·refine rgs [] rfl ?_ ?_
  ·have c:(T 3).bytes=8:=rfl;simp [ay,under,c];omega
  change Fin ..
  first
  | (refine aH hT [] (ts:=[]) (l:=[]) trivial trivial ⟨obs rfl (hg:=q0 (ah (by rw [kD,aaI a,bZ];rfl))),pV rfl rfl (by rw [kD,aaI a,bZ]) rfl rfl (by rw [kD,aaI a];exact app1 (z:=(T 3).zero) rfl (λq d=>rfl)),tt⟩ rfl rfl rfl)
  | (
   have e:kD l k b=l:=by rw [kD,a];rfl
   rw [e]
   exact aH hT [] (ts:=[]) (l:=[]) trivial trivial ⟨obs rfl,pV rfl rfl rfl rfl rfl (λq d=>rfl),tt⟩ rfl rfl rfl)
 ·refine sk ?_
  change Fin ..
  first
  | (refine aH hT [] (ts:=[]) (l:=[]) trivial trivial ⟨obs rfl (hg:=q0 (ah (by rw [kD,aaI a,bZ];rfl))),pV rfl rfl (by rw [kD,aaI a,bZ]) rfl rfl (by rw [kD,aaI a];exact app1 (z:=(T 3).zero) rfl (λq d=>rfl)),tt⟩ rfl rfl rfl)
  | (
   have e:kD l k b=l:=by rw [kD,a];rfl
   rw [e]
   exact aH hT [] (ts:=[]) (l:=[]) trivial trivial ⟨obs rfl,pV rfl rfl rfl rfl rfl (λq d=>rfl),tt⟩ rfl rfl rfl)
def wB (p:aj) (s:bW) (c:zf):Bool:=(c.send&&jM p s c.chan)||(!c.send&&BD s c.chan)
def fG (p:aj) (s:bW) (q:tN):Nat->List Int
 | 0=>[]
 | k+1=>kD (fG p s q k) k (wB p s (aA q k))
theorem xK (p:aj) (s:bW) (q:tN):∀ k,(fG p s q k).length<=k
 | 0=>aa1 _
 | k+1=>by have:=xK p s q k;rw [fG,kD];split <;> simp <;> omega
abbrev bJ (p:aj) (s:bW) (g:Int):tN:=aO (bM p (goI s g)) (aU p s g).a.toNat
def iJ (p:aj) (s:bW) (g:Int):List Int :=
 if (aU p s g).op≠61 then (if iR p s g then [0]else [])else
 kD (fG p s (bJ p s g) (bJ p s g).cases.length) (bJ p s g).cases.length ((fG p s (bJ p s g) (bJ p s g).cases.length).length==0&&(bJ p s g).els != -1)
theorem eH.sel {p:aj} {s:bW} {g:Int} (h:eH p s g) (e:(aU p s g).op=61):aZ (aU p s g).a (bM p (goI s g)).sels.length/\ZA p (bM p (goI s g)) (bJ p s g):=by
 have b:=h.at.ins (by rw [e];decide);have c:aZ (aU p s g).a (bM p (goI s g)).sels.length:=by rw [b];exact h.ins.sel (by rw [<- b];exact e)
 refine ⟨c,?_⟩;unfold aZ at c;unfold bJ aO;rw [aaS,aaF (show (aU p s g).a.toNat<(bM p (goI s g)).sels.length by omega)];exact h.fn.sel _ (abZ _)
theorem CX {p:aj} {s:bW} {g:Int} (h:eH p s g):(iJ p s g).length<=5:=by
 unfold iJ;split
 ·split <;> simp
 rename_i e;have:=(h.sel (by simpa using e)).2.len;have a:=xK p s (bJ p s g) (bJ p s g).cases.length;rw [kD];split <;> simp [-List.getD_eq_getElem?_getD] <;> omega
theorem SE (p:aj) (s:bW) (g:Int) (h:eH p s g):AC Tryz.prog T aJ 116 [ak p,encS s,.int g] [] (ints false (iJ p s g)) []:=by
 refine aX Tryz.func116 ?_;have h6:=h.pos;have v:=h.prog.chans;refine sg rfl (sq ?_);refine WP.ent (st':=aN [(3,.rp 26 (ak p)),(4,.rp 62 (encS s)),(2,.int g)] []) (em [(.s 3 0,1),(.s 4 0,1)] ⟨sF,sF,tt⟩ ⟨rq,rq,cq,tt⟩ trivial) ?_;refine rgs [CG.pure (aT (aU p s g))] rfl ?_ ?_
 ·have n:=SA p s g h;exact au
 refine sq (sq ?_);refine WP.ent (st':=aN [(7,.rp 120 (aT (aU p s g))),(2,.int g),(3,.rp 26 (ak p)),(4,.rp 62 (encS s))] []) (em [(.s 7 0,1)] ⟨sF,tt⟩ ⟨rq,cq,cq,cq,tt⟩ trivial) ?_;refine rg [] rfl (cd rfl (λo=>?_) (λo=>?_))
 ·(have a:(aU p s g).op≠61:=by simpa using o);refine sq (sq (rgs [CG.pure (.bool (iR p s g))] rfl ?_ ?_));{have n:=SS p s g h;exact au};refine cd rfl (λr=>?_) (λr=>?_);{refine sg rfl (rX ?_);refine aH hT [] (ts:=[(6,ints false (iJ p s g))]) (l:=[ints false (iJ p s g)]) trivial ⟨⟨rfl,_,rfl,?_⟩,tt⟩ trivial rfl rfl rfl;(have e:iJ p s g=[0]:=by rw [iJ,aaI a,aaI r]);rw [e];exact JO (λh=>by cases h) (λi hi=>by obtain rfl:i=0:=Nat.lt_one_iff.1 hi;rfl)};refine sk (sq (rg [] rfl ?_));refine rX ?_;refine aH hT [] (ts:=[(6,ints false (iJ p s g))]) (l:=[ints false (iJ p s g)]) trivial ⟨⟨rfl,_,rfl,?_⟩,tt⟩ trivial rfl rfl rfl;(have e:iJ p s g=[]:=by rw [iJ,aaI a,Y0 (by rw [r];decide)]);rw [e];exact dI (by decide)
 (have a:(aU p s g).op=61:=by simpa using o);have f:=h.sel a;have a1:=f.2.len;have u:=f.1;have t:=h.fit.2.1;refine sk (sq (rg [] rfl ?_));refine sq (drs [] rfl ?_ ?_);{simp only [aZ,bM,goI]at u t;simp [-List.getD_eq_getElem?_getD,ay,under];omega};refine sq (WP.ent (st':=aN [(9,.rp 103 (jG (bJ p s g))),(3,.rp 26 (ak p)),(4,.rp 62 (encS s)),(8,.ptr (.s 8 0) 1 0 [])] [(.s 8 0,.cells ⟨23,1,λ_ => .nils,0⟩)]) (em [(.s 9 0,1)] ⟨sF,tt⟩ ⟨rq,cq,cq,cq,tt⟩ ⟨obs rfl,tt⟩) ?_);refine rg [] rfl (sq (sq (rg [] rfl ?_)));refine bk (WP.loop (α:=Nat) (λk=>aN [(3,.rp 26 (ak p)),(4,.rp 62 (encS s)),(8,.ptr (.s 8 0) 1 0 []),(9,.rp 103 (jG (bJ p s g))),(10,.clo 165 [.ptr (.s 8 0) 1 0 []]),(41,rowP 215 qg EG (bJ p s g).cases),(42,.int (bJ p s g).cases.length),(43,.int k)] [(.s 8 0,.cells ⟨23,1,λ_ => .own (.s 99 0) (fG p s (bJ p s g) k).length 0 (fG p s (bJ p s g) k).length none,0⟩),(.s 99 0,kH 3 .i64 (fG p s (bJ p s g) k))]) (λk=>k<=(bJ p s g).cases.length) (λk=>(bJ p s g).cases.length - k) ?_ ?_);{refine ⟨0,?_,?_⟩;{exact abr _};refine eX cX ⟨obs rfl (hg:=q0 gB),⟨λ_ _=>rfl,.inr ⟨rfl,3,_,rfl,by decide⟩⟩,tt⟩};rintro k hk;have z:=xK p s (bJ p s g) k;refine sg rfl (sq ?_);refine cd rfl (λc=>?_) (λc=>?_);{(have b:k<(bJ p s g).cases.length:=by simp [-List.getD_eq_getElem?_getD]at c;omega);have w:=f.2.case (aA (bJ p s g) k) (by unfold aA;rw [aaS,aaF b];exact abZ _);have j:=w.chan;refine sk (sq (bk (sq (rgs [] rfl ?_ ?_))));{simp [-List.getD_eq_getElem?_getD,ay,under];omega};refine rgs [CG.pure (.bool (jM p s (aA (bJ p s g) k).chan)),CG.pure (.bool (BD s (aA (bJ p s g) k).chan)),⟨true,[.s 8 0,.s 99 0],.tup [],RH (kD (fG p s (bJ p s g) k) k (wB p s (aA (bJ p s g) k)))⟩] rfl ?_ ?_;{have n:=MB p s (aA (bJ p s g) k).chan j v;have a0:=Ed s (aA (bJ p s g) k).chan (by unfold aZ at j;omega);have d:=RG (fG p s (bJ p s g) k) k (wB p s (aA (bJ p s g) k)) (by omega);(have e:(bif (bif (aA (bJ p s g) k).send then jM p s (aA (bJ p s g) k).chan else false)then true else (bif !(aA (bJ p s g) k).send then BD s (aA (bJ p s g) k).chan else false))=wB p s (aA (bJ p s g) k):=by simp only [fM,band];rfl);have x:kU [.s 8 0,.s 99 0] [.cells ⟨23,1,λ_ => .own (.s 99 0) (fG p s (bJ p s g) k).length 0 (fG p s (bJ p s g) k).length none,0⟩,kH 3 .i64 (fG p s (bJ p s g) k)]:=⟨λ_ _=>rfl,λ_ _=>rfl,tt⟩;have m:kU (bs 2) (RH (kD (fG p s (bJ p s g) k) k (wB p s (aA (bJ p s g) k)))):=⟨λ_ _=>rfl,λ_ _=>rfl,tt⟩;rw [<- e]at d m ⊢;exact au};refine rg [] rfl ⟨k+1,?_,?_,?_⟩;{exact b};{refine eX cX ⟨obs rfl,pV rfl rfl rfl rfl rfl (λq n=>rfl),tt⟩};(try simp only []);first | omega | grind};(have b:k=(bJ p s g).cases.length:=by simp [-List.getD_eq_getElem?_getD]at c;omega);subst b;refine xt (sq (rgs [⟨true,[.s 8 0,.s 99 0],.tup [],RH (iJ p s g)⟩] rfl ?_ ?_));{have d:=RG (fG p s (bJ p s g) (bJ p s g).cases.length) (bJ p s g).cases.length ((fG p s (bJ p s g) (bJ p s g).cases.length).length==0&&(bJ p s g).els != -1) (by omega);(have e:kD (fG p s (bJ p s g) (bJ p s g).cases.length) (bJ p s g).cases.length ((fG p s (bJ p s g) (bJ p s g).cases.length).length==0&&(bJ p s g).els != -1)=iJ p s g:=by rw [iJ,Y0 (by simp [a])]);(have y:((fG p s (bJ p s g) (bJ p s g).cases.length).length==0&&(bJ p s g).els != -1)=(bif (((fG p s (bJ p s g) (bJ p s g).cases.length).length:Int)==0)then (bJ p s g).els != -1 else false):=by rw [band];congr 1;rw [abT];simp);rw [e,y]at d;have x:kU [.s 8 0,.s 99 0] [.cells ⟨23,1,λ_ => .own (.s 99 0) (fG p s (bJ p s g) (bJ p s g).cases.length).length 0 (fG p s (bJ p s g) (bJ p s g).cases.length).length none,0⟩,kH 3 .i64 (fG p s (bJ p s g) (bJ p s g).cases.length)]:=⟨λ_ _=>rfl,λ_ _=>rfl,tt⟩;have m:kU (bs 2) (RH (iJ p s g)):=⟨λ_ _=>rfl,λ_ _=>rfl,tt⟩;exact au};refine sg rfl (rX ?_);refine aH hT [(.s 99 0,(iJ p s g).length)] (ts:=[(6,ints false (iJ p s g))]) (l:=[ints false (iJ p s g)]) ⟨⟨_,rfl,aa1 _⟩,tt⟩ ⟨⟨rfl,_,rfl,?_⟩,tt⟩ trivial rfl rfl rfl;exact gZ rfl rfl rfl (λh=>by cases h) (by simp [dL,aQ]) (λq n=>by rw [ab1];exact ⟨rfl,wJ.refl _⟩)
structure Yn where
 kind:Int
 num:Int
 wr:Bool
 deriving DecidableEq
def uV (x:Yn):AV:=bI 134 [.int x.kind,.int x.num,.bool x.wr]
def aad:Yn:=⟨0,0,false⟩
structure zV where
 go:Int
 a:Int
 b:Int
 op:Int
 c:Int
 val:Int
 tag:Int
 ts:List Yn
 n:Int
def XQ (l:List Yn):AV := .agg 135 6 (λi=>uV (l.getD i aad))
def gy (x:zV):AV:=bI 137 [.int x.go,.int x.a,.int x.b,.int x.op,.int x.c,.int x.val,.int x.tag,XQ x.ts,.int x.n]
theorem pW (x:zV):fC (gy x)=true:=zy (λi hi=>by
 match i,hi with
 | 0,_ | 1,_ | 2,_ | 3,_ | 4,_ | 5,_ | 6,_ | 8,_=>rfl
 | 7,_=>exact zy (λj _=>zy (λq a=>by match q,a with | 0,_ | 1,_ | 2,_=>rfl)))
def uU:zV:=⟨0,0,0,0,0,0,0,[],0⟩
def zK (f:Bool) (l:List zV):AV := .row 137 f l.length (λi=>gy (l.getD i uU))
section
variable {α:Type} [DecidableEq α] (d:α)
def dd (l:List α):Nat->List α
 | 0=>[]
 | k+1=>if 0<k/\l.getD k d=l.getD (k - 1) d then dd l k else dd l k++[l.getD k d]
theorem Ij (l:List α):∀ k,(dd d l k).length<=k
 | 0=>aa1 _
 | k+1=>by have:=Ij l k;simp only [dd];split;{omega};simp;omega
theorem XZ (l:List α):∀ k,0<k->0<(dd d l k).length
 | 1,_=>by simp [dd]
 | k+2,_=>by have:=XZ l (k+1) (by omega);rw [dd];split;{exact this};simp
theorem Lj (l:List α):∀ k,k<=l.length->(∀ j,0<j->j<k->l.getD j d≠l.getD (j - 1) d)->dd d l k=l.take k
 | 0,_,_=>rfl
 | k+1,hk,h=>by rw [dd,Y0 (λe=>h k e.1 (by omega) e.2),Lj l k (by omega) (λj a b=>h j a (by omega))];rw [ac7];(have:k<l.length:=by omega);simp [this]
theorem Fp {l:List α} {k:Nat} (a:0<k) (h:l.getD k d=l.getD (k - 1) d):dd d l (k+1)=dd d l k:=by rw [dd,aaI ⟨a,h⟩]
theorem Sl {l:List α} {k:Nat} (h:l.getD k d≠l.getD (k - 1) d):dd d l (k+1)=dd d l k++[l.getD k d]:=by rw [dd,Y0 (λe=>h e.2)]
theorem Bj {l:List α} (h:∀ j,0<j->j<l.length->l.getD j d≠l.getD (j - 1) d):dd d l l.length=l:=by
 rw [Lj d l l.length (aa1 _) h,acU]
theorem OD {enc:α->AV} {l c:List α} {i:Nat} {z:AV} (ht:c.take i=dd d l l.length) (hi:i=(dd d l l.length).length) (hl:i<=l.length) (q:Nat) (g:q<l.length) :
 (bif Nat.ble i q&&Nat.blt q (i+(l.length - i))then z else enc (c.getD q d))=(bif Nat.blt q (dd d l l.length).length then enc ((dd d l l.length).getD q d)else z):=by
 by_cases h:i<=q
 ·have e:(Nat.ble i q&&Nat.blt q (i+(l.length - i)))=true:=by simp [h,acQ];omega
  have a:Nat.blt q (dd d l l.length).length=false:=by
   cases b:Nat.blt q (dd d l l.length).length with
   | false=>rfl
   | true=>rw [acQ]at b;omega
  rw [e,a,aco,aci]
 ·have e:(Nat.ble i q&&Nat.blt q (i+(l.length - i)))=false:=by simp;intro f;omega
  rw [e,aci,oQ (by omega),<- ht];simp only [aaS,acE];rw [aaI (by omega)]
end
theorem wM {i:Nat} (h:1<=i) (a:i<2 ^ 63):(IntKind.i64.wrap ((i:Int) - 1)).toNat=i - 1:=by rw [bK (by omega) (by omega)];omega
theorem Gw {α:Type} {enc:α->AV} {z:AV} {ids:List Id} (h:∀ a,fE ids (enc a)=true) (b:fE ids z=true) (l:List α) {d:α} {q n:Nat}:fE ids (bif Nat.blt q n then enc (l.getD q d)else z)=true:=by
 cases Nat.blt q n
 ·exact b
 exact h _
open Go.Proofs Go.Sort
section
variable {α:Type} [Inhabited α]
def iY (a:α->α->Int) (l:List α):List α:=(pdq (Go.Proofs.ltOf a) l.toArray 0 l.length (Lib.bitLen l.length) true true).toList
theorem yG {a:α->α->Int} (b:SWO (Go.Proofs.ltOf a)) (l:List α):PermIn 0 l.length l.toArray (iY a l).toArray/\SortedIn (Go.Proofs.ltOf a) 0 l.length (iY a l).toArray:=by
 have h:=pdq_sorts (Go.Proofs.ltOf a) b l.toArray 0 l.length (Lib.bitLen l.length) true true (abr _) (by simp) (.inl rfl);exact ⟨by simpa [iY]using h.1,by simpa [iY]using h.2⟩
theorem sO {a:α->α->Int} (b:SWO (Go.Proofs.ltOf a)) (l:List α):(iY a l).length=l.length:=by
 have:=(yG b l).1.1;simpa using this
theorem LY {a:α->α->Int} (b:SWO (Go.Proofs.ltOf a)) (l:List α):(iY a l).Perm l:=by
 have h:=(yG b l).1.2.2;have hl:=sO b l;simp only [List.extract_toArray,List.extract_eq_take_drop]at h;have c:(List.take l.length (iY a l)).Perm l:=by simpa using h
 rwa [List.take_of_length_le (by omega)]at c
theorem IW {a:α->α->Int} (c:SWO (Go.Proofs.ltOf a)) (l:List α):(iY a l).Pairwise λx y=>Go.Proofs.ltOf a y x=false:=by
 rw [List.pairwise_iff_getElem];intro i j hi d b;have hl:=sO c l;have:=(yG c l).2 i j (abr _) b (by omega);simpa [hi,d]using this
end
section
variable {P:Program} {T:Nat->TI} {N:Nat}
structure aa2 (T:Nat->TI) (N E k:Nat) {α:Type} (encA:α->AV) (encV:α->List Value):Prop where
 len:∀ x,(encV x).length=k
 one:∀ x,∀ v∈encV x,v.oneCell'=true
 rep:∀ I ρ x,Rep T N I ρ (encA x) (encV x)
 uni:∀ I ρ x cs,Rep T N I ρ (encA x) cs->cs=encV x
 fits:∀ x,fit T E (encA x)=true
 pack:∀ x,eY (encA x) (encV x) = .agg (encV x).toArray
 size:(T E).size=k
 pos:0<k
theorem OZ {A B:World} (h:Grown A B):∃ q b,B=grow (A.drewN q) b:=by
 refine ⟨B.drawn - A.drawn,B.heap.extract A.heap.size B.heap.size,?_⟩;obtain ⟨hp,j,dr,os,out⟩:=B;have c:=h.os;have d:=h.output;have e:=h.tape;simp only at c d e;simp only [grow,World.drewN,World.mk.injEq];refine ⟨?_,e.1,by omega,c,d⟩;apply Array.ext
 ·have:=h.size;simp only [Array.size_append,Array.size_extract]at *;omega
 intro i hi g;have:=h.size;rw [Array.getElem_append];split;{rename_i a;have:=h.same i a;simp only [Array.getElem?_eq_getElem hi,Array.getElem?_eq_getElem a,abb]at this;exact this};rename_i f;rw [Array.getElem_extract];congr 1;omega
theorem Jv {α:Type} [Inhabited α] (enc:α->List Value) (k:Nat) (w:World) (n blk off:Nat) (d:Array α) (os:Array Obj) {r:Nat} (b:r<w.heap.size) :
 (sortWorldK enc k w blk off n d os).heap[r]? = if blk=r then (w.heap[r]?).map (onCells (putCells id off (flatK enc k d)))else w.heap[r]? := by
 unfold sortWorldK putRowK;have a:r<(putRow id (Sort.ahead w n) blk off (flatK enc k d)).heap.size:=by simpa [putRow,mapBlock,Sort.ahead]using b
 rw [heap_grow_old _ _ a];simp only [putRow,mapBlock,Sort.ahead,Array.getElem?_modify]
theorem X3 {α:Type} [Inhabited α] {E k:Nat} {encA:α->AV} {encV:α->List Value} (hE:aa2 T N E k encA encV) {r:α->α->Int} {g:FuncId} (hc:∀ x y,AC P T N g [encA x,encA y] [] (.v (.int .i64 (r x y))) []) (blk off size:Nat) (w:World) (l:∀ (b o n:Nat),(T b).glb[o]? = some n->w.cell? ⟨b,o,none⟩=some (.int .u8 n)/\b≠blk):CmpLays P g #[] encV k r blk off size w:=by
 intro m os s a0 x y;have h:=(hc x y).2 (λb o=>((T b).glb[o]?).map λ(m:Nat)=>Value.int .u8 (m:Int)) gU (sortWorldK encV k w blk off m s os) [.agg (encV x).toArray,.agg (encV y).toArray] rfl (λi a v d c=>by
  match i with
  | 0=>simp at d c;subst d c;exact .one ⟨_,hE.rep _ _ x,(hE.pack x).symm⟩
  | 1=>simp at d c;subst d c;exact .one ⟨_,hE.rep _ _ y,(hE.pack y).symm⟩
  | i+2=>simp at d) ⟨λid B h=>(by cases id <;> simp [yA]at h),λid B h=>(by cases id <;> simp [yA]at h),λid p h=>(by cases h),λi j p q h=>(by cases h),λb o y h=>(by
   simp only [ab4]at h
   obtain ⟨n,u,rfl⟩:=h
   obtain ⟨t,z⟩:=l b o n u
   rw [nP (w:=w) ?_]
   ·exact t
   ·rw [Jv encV k w m blk off s os (lJ t),Y0 (λe=>z e.symm)]),λb o n h=>(by simp [h])⟩
 refine h.mono ?_;rintro e w' ⟨v,I',ρ',rfl,f,c,_⟩;exact ⟨by rw [c.v.1],OZ (Grown.of_ev f)⟩
theorem Vr (hT:iZ P T N) {a0:Go.Shelf.Ren} (L:SlLaysF0.n6 P a0) {α:Type} [Inhabited α] {E k:Nat} {encA:α->AV} {encV:α->List Value} (hE:aa2 T N E k encA encV)
 (aE:∀ w,(isAgg (a0.t 24)).run P w = .ok true w) (zE:∀ w,(Go.sizeOf (a0.t 24)).run P w = .ok k w) {d:α->α->Int} (hO:SWO (Go.Proofs.ltOf d)) {g:FuncId} (eg:∀ args w,(callFunc g args).run P w = .ok (.enter g args) w)
 (hc:∀ x y,AC P T N g [encA x,encA y] [] (.v (.int .i64 (d x y))) []) (a5:callable P (a0.f 6)) (l:List α) (b1:l.length<4611686018427387904) :
 AC P T N (a0.f 6) [.own (.b 0) l.length 0 l.length none,.clo g []] [dw E encA default l] (.tup []) [dw E encA default (iY d l)]:=by
 refine ⟨a5,λI ρ w vs d6 b6 hw=>?_⟩;obtain ⟨v,c0,rfl⟩:∃ v c0,vs=[v,c0]:=by
  match vs,d6 with
  | [v,c0],_=>exact ⟨v,c0,rfl⟩
 have hv:=(b6 0 _ v rfl rfl).rep1 (λ_=>by simp);have d5:=(b6 1 _ c0 rfl rfl).rep1 (λ_=>by simp)
 have d1:c0 = .func (.func g) #[] #[]:=by
  obtain ⟨cs,h1,h2⟩:=d5;cases h1 with
  | clo ys hl h =>
   have:ys = #[]:=adf (by simpa using hl);subst this;exact h2
 subst d1;have z:=sO hO l
 have hm:yA [dw E encA default l] (.b 0)=some (dw E encA default l):=rfl;have b4:yA [dw E encA default (iY d l)]=tZ (yA [dw E encA default l]) (.b 0) (dw E encA default (iY d l)):=by
  funext a;by_cases ha:a = .b 0
  ·subst ha;rw [dZ];rfl
  ·rw [iG _ _ ha];cases a with
   | s _ _=>rfl
   | b j =>
    cases j with
    | zero=>exact absurd rfl ha
    | succ j=>rfl
 rcases Rep.own_inv hv with ⟨rfl,h0,_,_⟩ | ⟨q,hq,f5,hx⟩
 ·obtain rfl:l=[]:=ac1 h0;refine (AnyF.slices_SortFunc_none L none 0 (.func (.func g) #[] #[]) w).mono ?_;rintro e w' ⟨rfl,rfl⟩;refine ⟨_,I,ρ,rfl,Ev.refl _ _ _,.tup _ rfl (λi c hi=>by simp at hi),?_⟩;rw [show iY d ([]:List α)=[]from ac1 z];exact hw
 ·obtain ⟨q',cs,c1,c2,c3,c4,c5,c6,c7,c8,c9,e0⟩:=hw.cellsAt hm hq;rw [hq]at c1;cases c1;obtain ⟨c,rfl,g1,g2,g3,g4,g5,g6⟩:=hx c3;simp only [hE.size]at c7 c8;have a6:=hE.pos
  have p:∀ j,j<l.length*k->cs[j]? = some ((encV (l.getD (j / k) default))[j % k]!):=by
   intro j m;have d3:j / k<l.length:=(Nat.div_lt_iff_lt_mul a6).2 m
   obtain ⟨seg,e1,e2,e3,e4⟩:=c8 (j / k) d3;have b3:=hE.uni _ _ _ _ e1
   subst b3;have hm:=adU j a6
   have:=e4 (j % k) hm;rw [show j / k*k+j % k=j by rw [adn];exact adG j k]at this;rw [this];have u:j % k<(encV (l.getD (j / k) default)).length:=by rw [hE.len];exact hm
   rw [aaF u,getElem!_pos (encV (l.getD (j / k) default)) (j % k) u]
  have u:=hw.place_lt hq;have hH:HoldsK encV k w q.b 0 l.toArray:=by
   intro j m;have b0:j<l.length*k:=by simpa using m
   refine ⟨?_,?_⟩
   ·simp only [World.cell?,c5,ab1];rw [p j b0,get_flatK _ _ _ _ (by simpa using b0)];simp [aaS,getElem!_def];cases l[j / k]? <;> rfl
   ·simp [World.frozen?,c5]
  have a1:=AnyQ.slices_SortFunc_eq L k aE zE encV hE.len hE.one d hO g #[] q.b 0 c l.toArray w eg (X3 hE hc q.b 0 l.toArray.size w (λb o n a9=>⟨hw.imm _ _ _ (hw.gl b o n a9),λe=>by
   have h9:=c9 o (by rw [<- e,hw.gl b o n a9];simp);simp at h9⟩)) hH u (by simpa using b1)
  simp only [Nat.zero_mul];refine a1.mono ?_;rintro e w' ⟨rfl,n,os,rfl⟩;have d2:(pdq (Go.Proofs.ltOf d) l.toArray 0 l.toArray.size (Lib.bitLen l.toArray.size) true true)=(iY d l).toArray:=by simp [iY]
  rw [d2];have a4:=λr hr=>Jv encV k w n q.b 0 (iY d l).toArray os (r:=r) hr
  have a2:∀ j,(putCells id 0 (flatK encV k (iY d l).toArray) cs)[j]? = if j<l.length*k then some ((encV ((iY d l).getD (j / k) default))[j % k]!)else cs[j]? := by
   intro j;simp only [putCells,Array.getElem?_mapIdx,ab1,abr,true_and,size_flatK,ac5,z,Nat.sub_zero];split
   ·rename_i m;rw [p j m];simp only [acP,abb,id];rw [get_flatK _ _ _ _ (by simpa [z]using m)];simp [aaS,getElem!_def];cases (iY d l)[j / k]? <;> rfl
   ·cases cs[j]? <;> rfl
  have b5:=Jd (len:=l.length) (i:=0) (h:=λj=>encA ((iY d l).getD j default)) (cs':=putCells id 0 (flatK encV k (iY d l).toArray) cs) (w':=sortWorldK encV k w q.b 0 n (iY d l).toArray os) hT hw hm hq (by simp) (abr _) c5 (by simp [putCells])
   (by rw [a4 _ u,aaI rfl,c5];rfl) (λb hb d4=>by rw [a4 _ hb,Y0 (Ne.symm d4)]) (by simp [sortWorldK,putRowK,putRow,mapBlock,Sort.ahead,grow]) rfl rfl ⟨rfl,by simp [sortWorldK,putRowK,putRow,mapBlock,Sort.ahead,grow]⟩
   (
    λj m=>⟨encV ((iY d l).getD j default),hE.rep _ _ _,hE.fits _,by rw [hE.len];exact hE.size.symm,λo ho=>by
    have a7:o<k:=by rw [<- hE.size];exact ho
    have a8:(T E).size=k:=hE.size;show (putCells id 0 (flatK encV k (iY d l).toArray) cs)[(0+j)*(T E).size+o]? = _
    rw [a8,ab1];have b2:j*k+o<l.length*k:=by
     have:=abI k (show j+1<=l.length from m);rw [acD,Nat.one_mul]at this;omega
    rw [a2,aaI b2];have e1:(j*k+o) / k=j:=by rw [adn,Nat.mul_add_div a6,Nat.div_eq_of_lt a7,acV]
    have e2:(j*k+o) % k=o:=by rw [adn,Nat.mul_add_mod,adq a7]
    rw [e1,e2];have a3:o<(encV ((iY d l).getD j default)).length:=by rw [hE.len];exact a7
    rw [aaF a3,getElem!_pos (encV ((iY d l).getD j default)) o a3]⟩)
   (
    λj m=>by
    have a8:(T E).size=k:=hE.size;change j<0*(T E).size\/(0+l.length)*(T E).size<=j at m;rw [a8,Nat.zero_mul,ab1]at m;rw [a2,Y0 (by omega)])
  refine ⟨_,I,ρ,rfl,b5.1,.tup _ rfl (λi c hi=>by simp at hi),?_⟩;rw [b4];have e2:(Ob.cells { ty:=E,n:=l.length,get:=λj=>bif Nat.ble 0 j&&Nat.blt j (0+l.length)then encA ((iY d l).getD (j - 0) default)else encA (l.getD j default),fz:=0}:Ob)=dw E encA default (iY d l):=by
   simp only [dw,Ob.cells.injEq,zh.mk.injEq,z,true_and,and_true];funext j;by_cases m:j<l.length
   ·have e:(Nat.ble 0 j&&Nat.blt j (0+l.length))=true:=by rw [aa3];exact ⟨by simp,by rw [acQ];omega⟩
    rw [e];rfl
   ·have e:(Nat.ble 0 j&&Nat.blt j (0+l.length))=false:=by
     cases hb:(Nat.ble 0 j&&Nat.blt j (0+l.length))with
     | false=>rfl
     | true=>rw [aa3,acQ]at hb;omega
    rw [e];simp [aaS,z,show l.length<=j by omega]
  refine Eq.mp ?_ b5.2;exact ab5 (λo=>dR T N I ρ (tZ (yA [dw E encA default l]) (.b 0) o) _) e2
end
end Go.Ab
