/- Part 18 of a proof of a statement about the given program: an abstract machine over the model, proved sound, and contracts of the functions that the statement reaches; the last part proves the statement, for every input, with no condition. -/
import Derived.Test.YtcfelhfcjdofoaaGreatDoorX15
import Derived.Test.YtcfelhfcjdofoaaGreatDoorX16
import Derived.Test.YtcfelhfcjdofoaaGreatDoorX13
import Derived.Shelf.SlSortCmp.NoneTotal
set_option autoImplicit false
set_option linter.unusedSimpArgs false
set_option linter.unusedVariables false
set_option maxHeartbeats 4000000
set_option maxRecDepth 20000
namespace Go.Ab
open Go.Proofs
def bA (k:IntKind) (x y:Int):Int:=k.wrap ((BitVec.ofInt k.bits x &&& BitVec.ofInt k.bits y).toNat:Nat)
def bO (k:IntKind) (x y:Int):Int:=k.wrap ((BitVec.ofInt k.bits x ||| BitVec.ofInt k.bits y).toNat:Nat)
def bX (k:IntKind) (x y:Int):Int:=k.wrap ((BitVec.ofInt k.bits x ^^^ BitVec.ofInt k.bits y).toNat:Nat)
def bN (k:IntKind) (x y:Int):Int:=k.wrap ((BitVec.ofInt k.bits x &&& ~~~BitVec.ofInt k.bits y).toNat:Nat)
abbrev wI (x:Int):Int:=IntKind.i64.wrap x
abbrev wU (x:Int):Int:=IntKind.u64.wrap x
theorem sH (x:Int):0<=wU x/\wU x<18446744073709551616:=by rw [wU,IntKind.wrap_u64];omega
def jO (b:Bool):Int:=if b then 1 else 0
theorem Ad (b:Bool):AC Tryz.prog T aI 290 [.bool b] [] (.int (jO b)) []:=by
 refine aX Tryz.func290 ?_;refine sg rfl (sq (sq (rg [] rfl ?_)));refine cd rfl (λa=>?_) (λa=>?_)
 ·refine sg rfl (rX ?_);refine bn hT (by rfl) ?_;simp_all [jO]
 refine sk (sq (rg [] rfl ?_));refine rX ?_;refine bn hT (by rfl) ?_;simp_all [jO]
def kJ (op:Int):Int:=if 1<=op/\op<=15 then 1 else if 16<=op/\op<=36 then 2 else 0
theorem PO (op:Int):AC Tryz.prog T aI 268 [.int op] [] (.int (kJ op)) []:=by
 refine aX Tryz.func268 ?_;refine sg rfl (sq (bk (sq (rg [] rfl ?_))));refine cd rfl (λa=>?_) (λa=>?_)
 ·simp only [band]at a;simp at a;exact sg rfl (WP.ret (bn hT (by rfl) (by rw [kJ,aaW a])))
 simp only [band]at a;simp at a;refine sg rfl (cd rfl (λb=>?_) (λb=>?_));{simp only [band]at b;simp at b;exact sg rfl (WP.ret (bn hT (by rfl) (by rw [kJ,MC (by omega),aaW (by omega)])))};simp only [band]at b;simp at b;refine sk (sq (rg [] rfl ?_));exact WP.ret (bn hT (by rfl) (by rw [kJ,MC (by omega),MC (by omega)]))
def BX (x:Int):Int:=wU (bA .u64 (x.fdiv 2) 6148914691236517205+bA .u64 x 6148914691236517205)
def Et (x:Int):Int:=wU (bA .u64 (x.fdiv 4) 3689348814741910323+bA .u64 x 3689348814741910323)
def GN (x:Int):Int:=bA .u64 (wU (x.fdiv 16+x)) 1085102592571150095
def qE (k x:Int):Int:=wU (x+x.fdiv k)
def GL (x:Int):Int:=bA .i64 (wI (qE 4294967296 (qE 65536 (qE 256 (GN (Et (BX x))))))) 127
theorem ZQ (x:Int):AC Tryz.prog T aI 286 [.v (.int .u64 x)] [] (.int (GL x)) []:=by
 refine aX Tryz.func286 ?_;refine sg rfl (sg rfl ?_);refine sq (WP.ent (st':=aN [(0,.v (.int .u64 (BX x)))] []) ?_ ?_)
 ·refine eX cX trivial
 refine rg [] rfl (sq ?_);refine WP.ent (st':=aN [(0,.v (.int .u64 (Et (BX x))))] []) ?_ ?_
 ·refine eX cX trivial
 refine rg [] rfl (sq ?_);refine WP.ent (st':=aN [(0,.v (.int .u64 (GN (Et (BX x)))))] []) ?_ ?_
 ·refine eX cX trivial
 refine rg [] rfl (sq ?_);refine WP.ent (st':=aN [(0,.v (.int .u64 (qE 256 (GN (Et (BX x))))))] []) ?_ ?_
 ·refine eX cX trivial
 refine rg [] rfl (sq ?_);refine WP.ent (st':=aN [(0,.v (.int .u64 (qE 65536 (qE 256 (GN (Et (BX x)))))))] []) ?_ ?_
 ·refine eX cX trivial
 refine rg [] rfl (sq ?_);refine WP.ent (st':=aN [(0,.v (.int .u64 (qE 4294967296 (qE 65536 (qE 256 (GN (Et (BX x))))))))] []) ?_ ?_
 ·refine eX cX trivial
 exact rg [] rfl (WP.ret (bn hT (by rfl) rfl))
theorem aae (x:Int) (a:0<=x) (b:x<18446744073709551616):AC Tryz.prog T aI 287 [.v (.int .u64 x)] [] (.int (64 - (Go.Lib.bitLen x.toNat:Int))) [] :=
 AC.of_calls (xs:=[.int .u64 x]) ⟨_,Tryz.func287,rfl,rfl⟩ (λI ρ=>fU rfl) λw _=>Any.bits_LeadingZeros64 Tryz.layLz x w a (by omega)
theorem Wq (x:Int) (b:0<=x) (c:x<18446744073709551616):AC Tryz.prog T aI 288 [.v (.int .u64 x)] [] (.int (Go.Lib.ctz 64 x.toNat:Nat)) []:=by
 obtain ⟨n,rfl⟩:=aeI b;exact AC.of_calls (xs:=[.int .u64 n]) ⟨_,Tryz.func288,rfl,rfl⟩ (λI ρ=>fU rfl) λw hw=>Any7.bits_TrailingZeros64 Tryz.layTz n (by omega) w λ_ j a=>hw 0 j _ (by
  show VO[j]? = _
  have e:VO=Go.Lib.deBruijn64tab:=rfl
  rw [e,aaT a,aaV,aaT a]
  rfl)
theorem abE (x y:Nat) (hx:x<18446744073709551616) (a:y<18446744073709551616):AC Tryz.prog T aI 299 [.v (.int .u64 x),.v (.int .u64 y)] [] (.tup [.v (.int .u64 ((x*y / 18446744073709551616:Nat):Int)),.v (.int .u64 ((x*y % 18446744073709551616:Nat):Int))]) [] :=
 AC.of_calls (xs:=[.int .u64 x,.int .u64 y]) ⟨_,Tryz.func299,rfl,rfl⟩ (λI ρ => .tup _ rfl λi c h=>match i,h with | 0,h=>by cases h;exact DJ rfl | 1,h=>by cases h;exact DJ rfl) λw _=>Any.bits_Mul64 Tryz.layMul x y hx a w
def AY (a:Int):Nat->Int
 | 0=>0
 | k+1=>bO .u64 (AY a k) (wU (bA .u64 ((wU a).fdiv (2 ^ min k 64)) 1*2 ^ (min (63 - k) 64)))
def OU (a:Int):Int:=wI (AY a 64)
theorem aaq (a:Int):AC Tryz.prog T aI 289 [.int a] [] (.int (OU a)) []:=by
 refine aX Tryz.func289 ?_;refine sg rfl (sg rfl ?_);refine sq (sq (rg [] rfl ?_));refine bk (WP.loop (α:=Nat) (λk=>aN [(0,.int a),(3,.v (.int .u64 (AY a k))),(5,.int k)] []) (λk=>k<=64) (λk=>64 - k) ?_ ?_)
 ·refine ⟨0,?_,?_⟩;{exact abO _};refine eX cX trivial
 rintro k hk;refine sg rfl (sq ?_);refine cd rfl (λd=>?_) (λd=>?_);{(have b:k<64:=by simp at d;omega);(have c:IntKind.i64.wrap (63 - (k:Int))=((63 - k:Nat):Int):=by rw [bK (by omega) (by omega)];omega);refine sk (sq (bk (sq (rg [] rfl ?_))));refine rgs [] rfl ?_ ?_;{simp only [ay,under];(repeat' refine And.intro ?_ ?_);all_goals (first | trivial | (rw [c];omega) | omega)};refine rg [] rfl ⟨k+1,?_,?_,?_⟩;{exact b};{refine eX ⟨cq,⟨rfl,_,rfl,ah (by rw [AY,bO,bA];simp only [c,ac9];rfl)⟩,cq,tt⟩ trivial};(try simp only []);first | omega | grind};(have b:k=64:=by simp at d;omega);subst b;refine xt (sq (rg [] rfl ?_));exact WP.ret (bn hT (by rfl) rfl)
def Qq (x r:Int):Int:=bO .u64 (wU (x*2 ^ (min (bA .u64 (wU r) 63).toNat 64))) (x.fdiv (2 ^ (min (wU (64 - bA .u64 (wU r) 63)).toNat 64)))
theorem acN (x y:Int):0<=bA .u64 x y/\bA .u64 x y<18446744073709551616:=sH _
theorem abm (x r:Int):AC Tryz.prog T aI 291 [.v (.int .u64 x),.int r] [] (.v (.int .u64 (Qq x r))) []:=by
 refine aX Tryz.func291 ?_;refine sg rfl (sg rfl ?_);refine sq (rgs [] rfl ?_ ?_)
 ·have a:=acN (wU r) 63;have b:=sH (64 - bA .u64 (wU r) 63);simp only [ay,under];exact ⟨a.1,b.1⟩
 exact WP.ret (aG hT [] (ts:=[(4,.v (.int .u64 (Qq x r)))]) (l:=[.v (.int .u64 (Qq x r))]) trivial ⟨⟨rfl,_,rfl,ah rfl⟩,tt⟩ trivial rfl rfl rfl)
def Td (a b:Int):Int:=(((wU a).toNat*(wU b).toNat / 18446744073709551616:Nat):Int)
def Hu (a b:Int):Int:=if a<0 then wU (Td a b - wU b)else Td a b
def oD (a b:Int):Int:=if b<0 then wU (Hu a b - wU a)else Hu a b
def wM (a b:Int):Int:=(((wU a).toNat*(wU b).toNat % 18446744073709551616:Nat):Int)
theorem Zi (a b:Int):AC Tryz.prog T aI 292 [.int a,.int b] [] (.tup [.int (wI (oD a b)),.v (.int .u64 (wM a b))]) []:=by
 refine aX Tryz.func292 ?_;refine sg rfl (sq (rgs [CG.pure (.tup [.v (.int .u64 (Td a b)),.v (.int .u64 (wM a b))])] rfl ?_ ?_))
 ·have e:=sH a;have c:=sH b;have f:=abE (wU a).toNat (wU b).toNat (by omega) (by omega);rw [aey e.1,aey c.1]at f;exact au
 refine sq (sq (rg [] rfl ?_));refine cd rfl (λc=>?_) (λc=>?_)
 ·refine rg [] rfl (sq (sq (rg [] rfl ?_)));refine cd rfl (λd=>?_) (λd=>?_);{refine rg [] rfl (sg rfl ?_);refine rX ?_;exact aG hT [] (ts:=[(4,.int (wI (oD a b))),(5,.v (.int .u64 (wM a b)))]) (l:=[.int (wI (oD a b)),.v (.int .u64 (wM a b))]) trivial ⟨⟨rfl,_,rfl,ah (by simp at c d;simp only [oD,Hu];(repeat' split) <;> first | rfl | omega)⟩,⟨rfl,_,rfl,ah rfl⟩,tt⟩ trivial rfl rfl rfl};refine sk (sq (rg [] rfl ?_));refine rX ?_;exact aG hT [] (ts:=[(4,.int (wI (oD a b))),(5,.v (.int .u64 (wM a b)))]) (l:=[.int (wI (oD a b)),.v (.int .u64 (wM a b))]) trivial ⟨⟨rfl,_,rfl,ah (by simp at c d;simp only [oD,Hu];(repeat' split) <;> first | rfl | omega)⟩,⟨rfl,_,rfl,ah rfl⟩,tt⟩ trivial rfl rfl rfl
 refine sk (sq (sq (rg [] rfl ?_)));refine cd rfl (λd=>?_) (λd=>?_);{refine rg [] rfl (sg rfl ?_);refine rX ?_;exact aG hT [] (ts:=[(4,.int (wI (oD a b))),(5,.v (.int .u64 (wM a b)))]) (l:=[.int (wI (oD a b)),.v (.int .u64 (wM a b))]) trivial ⟨⟨rfl,_,rfl,ah (by simp at c d;simp only [oD,Hu];(repeat' split) <;> first | rfl | omega)⟩,⟨rfl,_,rfl,ah rfl⟩,tt⟩ trivial rfl rfl rfl};refine sk (sq (rg [] rfl ?_));refine rX ?_;exact aG hT [] (ts:=[(4,.int (wI (oD a b))),(5,.v (.int .u64 (wM a b)))]) (l:=[.int (wI (oD a b)),.v (.int .u64 (wM a b))]) trivial ⟨⟨rfl,_,rfl,ah (by simp at c d;simp only [oD,Hu];(repeat' split) <;> first | rfl | omega)⟩,⟨rfl,_,rfl,ah rfl⟩,tt⟩ trivial rfl rfl rfl
def lD (op a:Int):Int:=if op=3 then (if 0<=a then a else wI (0 - a))else if op=1 then wI (0 - a)else if op=2 then bX .i64 (-1) a else if op=4 then GL (wU a)else
 if op=5 then 64 - (Go.Lib.bitLen (wU a).toNat:Int)else if op=6 then (Go.Lib.ctz 64 (wU a).toNat:Nat)else if op=7 then OU a else if op=8 then jO (a != 0)else if op=9 then jO (a==0)else
 if op=10 then wI (IntKind.i8.wrap a)else if op=11 then wI (IntKind.i16.wrap a)else if op=12 then wI (IntKind.i32.wrap a)else if op=13 then wI (IntKind.u8.wrap a)else if op=14 then wI (IntKind.u16.wrap a)else wI (IntKind.u32.wrap a)
theorem abB (op a:Int):AC Tryz.prog T aI 269 [.int op,.int a] [] (.int (lD op a)) []:=by
 refine aX Tryz.func269 ?_;refine sg rfl (sq (sq (rg [] rfl ?_)));refine bk (sq (bk (sq (bk (sq (bk (sq (bk (sq (bk (sq (bk (sq (bk (sq (bk (sq (bk (sq (bk (sq (bk (sq (bk (sq (bk (sq (bk (sq (sq (sq (rg [] rfl ?_))))))))))))))))))))))))))))))));refine cd rfl (λj=>?_) (λj=>?_)
 ·refine xt (sq (rg [] rfl ?_));refine cd rfl (λi=>?_) (λi=>?_);{refine sg rfl (rX ?_);refine bn hT (by rfl) ?_;simp only [ade,aci,ab8,acK]at *;unfold lD;simp_all;all_goals (first | rfl | (intro;omega))};refine sk (sq (sq (rg [] rfl ?_)));refine rX ?_;refine bn hT (by rfl) ?_;simp only [ade,aci,ab8,acK]at *;unfold lD;simp_all;all_goals (first | rfl | (intro;omega))
 refine sk (sq (sq (rg [] rfl ?_)));refine cd rfl (λk=>?_) (λk=>?_);{refine xt (sq (sq (rg [] rfl ?_)));refine rX ?_;refine bn hT (by rfl) ?_;simp only [ade,aci,ab8,acK]at *;unfold lD;simp_all;all_goals (first | rfl | (intro;omega))};refine sk (sq (sq (rg [] rfl ?_)));refine cd rfl (λl=>?_) (λl=>?_);{refine xt (sq (sq (rg [] rfl ?_)));refine rX ?_;refine bn hT (by rfl) ?_;simp only [ade,aci,ab8,acK]at *;unfold lD;simp_all;all_goals (first | rfl | (intro;omega))};refine sk (sq (sq (rg [] rfl ?_)));refine cd rfl (λm=>?_) (λm=>?_);{refine xt (sq (sq (rgs [CG.pure (.int (GL (wU a)))] rfl ?_ ?_)));{have b:=ZQ (wU a);exact au};refine rX ?_;refine bn hT (by rfl) ?_;simp only [ade,aci,ab8,acK]at *;unfold lD;simp_all;all_goals (first | rfl | (intro;omega))};refine sk (sq (sq (rg [] rfl ?_)));refine cd rfl (λn=>?_) (λn=>?_);{refine xt (sq (sq (rgs [CG.pure (.int (64 - (Go.Lib.bitLen (wU a).toNat:Int)))] rfl ?_ ?_)));{have b:=aae (wU a) (sH a).1 (sH a).2;exact au};refine rX ?_;refine bn hT (by rfl) ?_;simp only [ade,aci,ab8,acK]at *;unfold lD;simp_all;all_goals (first | rfl | (intro;omega))};refine sk (sq (sq (rg [] rfl ?_)));refine cd rfl (λo=>?_) (λo=>?_);{refine xt (sq (sq (rgs [CG.pure (.int (Go.Lib.ctz 64 (wU a).toNat:Nat))] rfl ?_ ?_)));{have b:=Wq (wU a) (sH a).1 (sH a).2;exact au};refine rX ?_;refine bn hT (by rfl) ?_;simp only [ade,aci,ab8,acK]at *;unfold lD;simp_all;all_goals (first | rfl | (intro;omega))};refine sk (sq (sq (rg [] rfl ?_)));refine cd rfl (λp=>?_) (λp=>?_);{refine xt (sq (sq (rgs [CG.pure (.int (OU a))] rfl ?_ ?_)));{have b:=aaq a;exact au};refine rX ?_;refine bn hT (by rfl) ?_;simp only [ade,aci,ab8,acK]at *;unfold lD;simp_all;all_goals (first | rfl | (intro;omega))};refine sk (sq (sq (rg [] rfl ?_)));refine cd rfl (λq=>?_) (λq=>?_);{refine xt (sq (sq (rgs [CG.pure (.int (jO (a != 0)))] rfl ?_ ?_)));{have b:=Ad (a != 0);exact au};refine rX ?_;refine bn hT (by rfl) ?_;simp only [ade,aci,ab8,acK]at *;unfold lD;simp_all;all_goals (first | rfl | (intro;omega))};refine sk (sq (sq (rg [] rfl ?_)));refine cd rfl (λc=>?_) (λc=>?_);{refine xt (sq (sq (rgs [CG.pure (.int (jO (a==0)))] rfl ?_ ?_)));{have b:=Ad (a==0);exact au};refine rX ?_;refine bn hT (by rfl) ?_;simp only [ade,aci,ab8,acK]at *;unfold lD;simp_all;all_goals (first | rfl | (intro;omega))};refine sk (sq (sq (rg [] rfl ?_)));refine cd rfl (λd=>?_) (λd=>?_);{refine xt (sq (sq (rg [] rfl ?_)));refine rX ?_;refine bn hT (by rfl) ?_;simp only [ade,aci,ab8,acK]at *;unfold lD;simp_all;all_goals (first | rfl | (intro;omega))};refine sk (sq (sq (rg [] rfl ?_)));refine cd rfl (λe=>?_) (λe=>?_);{refine xt (sq (sq (rg [] rfl ?_)));refine rX ?_;refine bn hT (by rfl) ?_;simp only [ade,aci,ab8,acK]at *;unfold lD;simp_all;all_goals (first | rfl | (intro;omega))};refine sk (sq (sq (rg [] rfl ?_)));refine cd rfl (λf=>?_) (λf=>?_);{refine xt (sq (sq (rg [] rfl ?_)));refine rX ?_;refine bn hT (by rfl) ?_;simp only [ade,aci,ab8,acK]at *;unfold lD;simp_all;all_goals (first | rfl | (intro;omega))};refine sk (sq (sq (rg [] rfl ?_)));refine cd rfl (λg=>?_) (λg=>?_);{refine xt (sq (sq (rg [] rfl ?_)));refine rX ?_;refine bn hT (by rfl) ?_;simp only [ade,aci,ab8,acK]at *;unfold lD;simp_all;all_goals (first | rfl | (intro;omega))};refine sk (sq (rg [] rfl ?_));refine cd rfl (λh=>?_) (λh=>?_);{refine xt (sq (sq (rg [] rfl ?_)));refine rX ?_;refine bn hT (by rfl) ?_;simp only [ade,aci,ab8,acK]at *;unfold lD;simp_all;all_goals (first | rfl | (intro;omega))};refine sk (xt (sq (rg [] rfl ?_)));refine rX ?_;refine bn hT (by rfl) ?_;simp only [ade,aci,ab8,acK]at *;unfold lD;simp_all;all_goals (first | rfl | (intro;omega))
def xZ (op a b:Int):Int×Int:=if b=0 then (0,20)else if op=19/\b = -1 then (wI (0 - a),0)else if op=19 then (wI (a.tdiv b),0)else if b = -1 then (0,0)else (a.tmod b,0)
theorem jU {nt:Nat} {t:Nat->Option (D×AV)} {m:Id->Option Ob} {j k:Nat} {a b c d:Int} (g:t j=some (.always,.int a)) (h:t k=some (.always,.int b)) (f:Nat.beq k j=false) (e:(a,b)=(c,d)):Fin T aI nt 0 [.tmp j,.tmp k] (.tup [.int c,.int d]) [] ⟨t,m⟩:=by
 cases e;refine aG hT [] (ts:=[(j,.int a),(k,.int b)]) (l:=[.int a,.int b]) trivial ⟨⟨rfl,_,g,ah rfl⟩,⟨rfl,_,h,ah rfl⟩,tt⟩ trivial rfl ?_ rfl;have i:Nat.beq j j=true:=by simp
 have hk:Nat.beq k k=true:=by simp
 simp only [zS,aN,oz,f,i,hk];rfl
theorem Rn (op a b:Int):AC Tryz.prog T aI 270 [.int op,.int a,.int b] [] (.tup [.int (xZ op a b).1,.int (xZ op a b).2]) []:=by
 refine aX Tryz.func270 ?_;refine sg rfl (sq (bk (sq (rg [] rfl ?_))));refine cd rfl (λc=>?_) (λc=>?_)
 ·refine sg rfl (rX ?_);refine jU (by rfl) (by rfl) rfl ?_;simp only [band,ade,aci]at *;unfold xZ;simp_all
 refine sg rfl (cd rfl (λd=>?_) (λd=>?_));{refine sg rfl (rX ?_);refine jU (by rfl) (by rfl) rfl ?_;simp only [band,ade,aci]at *;unfold xZ;simp_all};refine sg rfl (cd rfl (λe=>?_) (λe=>?_));{refine sq (rgs [] rfl ?_ ?_);{simp [ay,under]at *;assumption};refine rX ?_;refine jU (by rfl) (by rfl) rfl ?_;simp only [band,ade,aci]at *;unfold xZ;simp_all};refine sg rfl (cd rfl (λf=>?_) (λf=>?_));{refine sg rfl (rX ?_);refine jU (by rfl) (by rfl) rfl ?_;simp only [band,ade,aci]at *;unfold xZ;simp_all};refine sk (sq (rgs [] rfl ?_ ?_));{simp [ay,under]at *;assumption};refine rX ?_;refine jU (by rfl) (by rfl) rfl ?_;simp only [band,ade,aci]at *;unfold xZ;simp_all
def Ns (op a b:Int):Int×Int:=if b<0 then (0,21)else if op=25 then (wI (a*2 ^ (min (wU b).toNat 64)),0)else if op=26 then (a.fdiv (2 ^ (min (wU b).toNat 64)),0)else (wI ((wU a).fdiv (2 ^ (min (wU b).toNat 64))),0)
theorem Qh (op a b:Int):AC Tryz.prog T aI 271 [.int op,.int a,.int b] [] (.tup [.int (Ns op a b).1,.int (Ns op a b).2]) []:=by
 refine aX Tryz.func271 ?_;refine sg rfl (sq (bk (sq (rg [] rfl ?_))));refine cd rfl (λc=>?_) (λc=>?_)
 ·refine sg rfl (rX ?_);refine jU (by rfl) (by rfl) rfl ?_;simp only [band,ade,aci,ab8,acK]at *;unfold Ns;(repeat' split) <;> first | rfl | omega
 refine sg rfl (cd rfl (λd=>?_) (λd=>?_));{refine sq (rgs [] rfl ?_ ?_);{exact (sH b).1};refine rX ?_;refine jU (by rfl) (by rfl) rfl ?_;simp only [band,ade,aci,ab8,acK]at *;unfold Ns;(repeat' split) <;> first | rfl | omega};refine sg rfl (cd rfl (λe=>?_) (λe=>?_));{refine sq (rgs [] rfl ?_ ?_);{exact (sH b).1};refine rX ?_;refine jU (by rfl) (by rfl) rfl ?_;simp only [band,ade,aci,ab8,acK]at *;unfold Ns;(repeat' split) <;> first | rfl | omega};refine sk (sq (rgs [] rfl ?_ ?_));{exact (sH b).1};refine rX ?_;refine jU (by rfl) (by rfl) rfl ?_;simp only [band,ade,aci,ab8,acK]at *;unfold Ns;(repeat' split) <;> first | rfl | omega
def mF (op a b:Int):Int:=if op=16 then wI (a+b)else if op=17 then wI (a - b)else if op=18 then wI (a*b)else if op=21 then bA .i64 a b else if op=22 then bO .i64 a b else if op=23 then bX .i64 a b else
 if op=24 then bN .i64 a b else if op=28 then wI (Qq (wU a) (bA .i64 b 63))else if op=29 then jO (a==b)else if op=30 then jO (a != b)else if op=31 then jO (decide (a<b))else
 if op=32 then jO (decide (a<=b))else if op=33 then jO (decide (wU a<wU b))else if op=34 then (if b<a then b else a)else if op=35 then (if b>a then b else a)else wI (oD a b)
theorem aa7 (op a b:Int):AC Tryz.prog T aI 272 [.int op,.int a,.int b] [] (.int (mF op a b)) []:=by
 refine aX Tryz.func272 ?_;refine sg rfl (sq (sq (rg [] rfl ?_)));refine bk (sq (rg [] rfl ?_));refine cd rfl (λo=>?_) (λo=>?_)
 ·refine sg rfl (rX ?_);refine bn hT (by rfl) ?_;simp only [ade,aci]at *;unfold mF;simp_all only [Int.reduceEq,adT,adA,ne_eq,adz,adE];all_goals rfl
 refine sg rfl (cd rfl (λp=>?_) (λp=>?_));{refine sg rfl (rX ?_);refine bn hT (by rfl) ?_;simp only [ade,aci]at *;unfold mF;simp_all only [Int.reduceEq,adT,adA,ne_eq,adz,adE];all_goals rfl};refine sg rfl (cd rfl (λq=>?_) (λq=>?_));{refine sg rfl (rX ?_);refine bn hT (by rfl) ?_;simp only [ade,aci]at *;unfold mF;simp_all only [Int.reduceEq,adT,adA,ne_eq,adz,adE];all_goals rfl};refine sg rfl (cd rfl (λr=>?_) (λr=>?_));{refine sg rfl (rX ?_);refine bn hT (by rfl) ?_;simp only [ade,aci]at *;unfold mF;simp_all only [Int.reduceEq,adT,adA,ne_eq,adz,adE];all_goals rfl};refine sg rfl (cd rfl (λd=>?_) (λd=>?_));{refine sg rfl (rX ?_);refine bn hT (by rfl) ?_;simp only [ade,aci]at *;unfold mF;simp_all only [Int.reduceEq,adT,adA,ne_eq,adz,adE];all_goals rfl};refine sg rfl (cd rfl (λe=>?_) (λe=>?_));{refine sg rfl (rX ?_);refine bn hT (by rfl) ?_;simp only [ade,aci]at *;unfold mF;simp_all only [Int.reduceEq,adT,adA,ne_eq,adz,adE];all_goals rfl};refine sg rfl (cd rfl (λf=>?_) (λf=>?_));{refine sg rfl (rX ?_);refine bn hT (by rfl) ?_;simp only [ade,aci]at *;unfold mF;simp_all only [Int.reduceEq,adT,adA,ne_eq,adz,adE];all_goals rfl};refine sg rfl (cd rfl (λg=>?_) (λg=>?_));{refine sq (rgs [CG.pure (.v (.int .u64 (Qq (wU a) (bA .i64 b 63))))] rfl ?_ ?_);{have c:=abm (wU a) (bA .i64 b 63);exact au};refine rX ?_;refine bn hT (by rfl) ?_;simp only [ade,aci]at *;unfold mF;simp_all only [Int.reduceEq,adT,adA,ne_eq,adz,adE];all_goals rfl};refine sg rfl (cd rfl (λh=>?_) (λh=>?_));{refine sq (rgs [CG.pure (.int (jO (a==b)))] rfl ?_ ?_);{have c:=Ad (a==b);exact au};refine rX ?_;refine bn hT (by rfl) ?_;simp only [ade,aci]at *;unfold mF;simp_all only [Int.reduceEq,adT,adA,ne_eq,adz,adE];all_goals rfl};refine sg rfl (cd rfl (λi=>?_) (λi=>?_));{refine sq (rgs [CG.pure (.int (jO (a != b)))] rfl ?_ ?_);{have c:=Ad (a != b);exact au};refine rX ?_;refine bn hT (by rfl) ?_;simp only [ade,aci]at *;unfold mF;simp_all only [Int.reduceEq,adT,adA,ne_eq,adz,adE];all_goals rfl};refine sg rfl (cd rfl (λj=>?_) (λj=>?_));{refine sq (rgs [CG.pure (.int (jO (decide (a<b))))] rfl ?_ ?_);{have c:=Ad (decide (a<b));exact au};refine rX ?_;refine bn hT (by rfl) ?_;simp only [ade,aci]at *;unfold mF;simp_all only [Int.reduceEq,adT,adA,ne_eq,adz,adE];all_goals rfl};refine sg rfl (cd rfl (λk=>?_) (λk=>?_));{refine sq (rgs [CG.pure (.int (jO (decide (a<=b))))] rfl ?_ ?_);{have c:=Ad (decide (a<=b));exact au};refine rX ?_;refine bn hT (by rfl) ?_;simp only [ade,aci]at *;unfold mF;simp_all only [Int.reduceEq,adT,adA,ne_eq,adz,adE];all_goals rfl};refine sg rfl (cd rfl (λl=>?_) (λl=>?_));{refine sq (rgs [CG.pure (.int (jO (decide (wU a<wU b))))] rfl ?_ ?_);{have c:=Ad (decide (wU a<wU b));exact au};refine rX ?_;refine bn hT (by rfl) ?_;simp only [ade,aci]at *;unfold mF;simp_all only [Int.reduceEq,adT,adA,ne_eq,adz,adE];all_goals rfl};refine sg rfl (cd rfl (λm=>?_) (λm=>?_));{refine sg rfl (rX ?_);refine bn hT (by rfl) ?_;simp only [ade,aci]at *;unfold mF;simp_all only [Int.reduceEq,adT,adA,ne_eq,adz,adE];all_goals rfl};refine sg rfl (cd rfl (λn=>?_) (λn=>?_));{refine sg rfl (rX ?_);refine bn hT (by rfl) ?_;simp only [ade,aci]at *;unfold mF;simp_all only [Int.reduceEq,adT,adA,ne_eq,adz,adE];all_goals rfl};refine sk (sq (rgs [CG.pure (.tup [.int (wI (oD a b)),.v (.int .u64 (wM a b))])] rfl ?_ ?_));{have c:=Zi a b;exact au};refine sg rfl (rX ?_);refine bn hT (by rfl) ?_;simp only [ade,aci]at *;unfold mF;simp_all only [Int.reduceEq,adT,adA,ne_eq,adz,adE];all_goals rfl
def lq (op a b:Int):Int×Int:=if kJ op=0 then (0,22)else if kJ op=1 then (lD op a,0)else if op=19\/op=20 then xZ op a b else if 25<=op/\op<=27 then Ns op a b else (mF op a b,0)
theorem Y5 (op a b:Int):AC Tryz.prog T aI 244 [.int op,.int a,.int b] [] (.tup [.int (lq op a b).1,.int (lq op a b).2]) []:=by
 refine aX Tryz.func244 ?_;refine sg rfl (sq (bk (sq (rgs [CG.pure (.int (kJ op))] rfl ?_ ?_))))
 ·have c:=PO op;exact au
 refine cd rfl (λd=>?_) (λd=>?_)
 ·refine sg rfl (rX ?_);refine jU (by rfl) (by rfl) rfl ?_;(try simp only [fE,band]at *);simp at *;unfold lq;(repeat' split) <;> first | rfl | omega
 refine sq (rgs [CG.pure (.int (kJ op))] rfl ?_ ?_);{have c:=PO op;exact au};refine cd rfl (λe=>?_) (λe=>?_);{refine sq (rgs [CG.pure (.int (lD op a))] rfl ?_ ?_);{have c:=abB op a;exact au};refine rX ?_;refine jU (by rfl) (by rfl) rfl ?_;(try simp only [fE,band]at *);simp at *;unfold lq;(repeat' split) <;> first | rfl | omega};refine sg rfl (cd rfl (λf=>?_) (λf=>?_));{refine sq (rgs [CG.pure (.tup [.int (xZ op a b).1,.int (xZ op a b).2])] rfl ?_ ?_);{have c:=Rn op a b;exact au};refine rX ?_;refine jU (by rfl) (by rfl) rfl ?_;(try simp only [fE,band]at *);simp at *;unfold lq;(repeat' split) <;> first | rfl | omega};refine sg rfl (cd rfl (λg=>?_) (λg=>?_));{refine sq (rgs [CG.pure (.tup [.int (Ns op a b).1,.int (Ns op a b).2])] rfl ?_ ?_);{have c:=Qh op a b;exact au};refine rX ?_;refine jU (by rfl) (by rfl) rfl ?_;(try simp only [fE,band]at *);simp at *;unfold lq;(repeat' split) <;> first | rfl | omega};refine sk (sq (rgs [CG.pure (.int (mF op a b))] rfl ?_ ?_));{have c:=aa7 op a b;exact au};refine rX ?_;refine jU (by rfl) (by rfl) rfl ?_;(try simp only [fE,band]at *);simp at *;unfold lq;(repeat' split) <;> first | rfl | omega
def z8:List Int:=[0,0,0,0,0,0,0,0]
def kH (g:iP) (st why:Int):iP:={ g with status:=st,why:=why,regs:=z8}
theorem FW (t:Nat):(AV.agg t 8 λ_=>AV.int 0)=kY t 8 .i64 z8:=bY λi=>by match i with | 0 | 1 | 2 | 3 | 4 | 5 | 6 | 7=>rfl | i+8=>rfl
theorem YE (g:iP) (st why:Int):(((bW g).put [0] (.int st)).put [3] (.int why)).put [4] (.agg 52 8 λ_=>AV.int 0)=bW (kH g st why):=by
 rw [gu,DN,FW,Gz];rfl
theorem FK (g:iP) (st why:Int):AC Tryz.prog T aI 243 [bW g,.int st,.int why] [] (bW (kH g st why)) []:=by
 refine aX Tryz.func243 ?_;refine sg rfl (sg rfl ?_);exact sg rfl (WP.ret (bf hT rfl rfl rfl rfl rfl (ah (YE g st why)) rfl rfl rfl))
def rY (g:iP) (r v:Int):iP:={ g with regs:=g.regs.set r.toNat v}
def Ci (g:iP) (x:iG):Int×Int:=lq x.op (bD g x.b) (if x.op>15 then bD g x.c else 0)
def kW (g:iP) (x:iG):iP :=
 if x.op=40 then rY { g with pc:=g.pc+1} x.a x.n else if x.op=41 then rY { g with pc:=g.pc+1} x.a (bD g x.b)else if x.op=42 then { g with pc:=x.a}else
 if x.op=43 then (if bD g x.a≠0 then { g with pc:=x.b}else { g with pc:=g.pc+1})else if x.op=44 then (if bD g x.a=0 then kH g 4 1 else { g with pc:=g.pc+1})else
 if x.op=45 then kH g 3 0 else if (Ci g x).2=20 then kH g 4 2 else if (Ci g x).2=21 then kH g 4 3 else rY { g with pc:=g.pc+1} x.a (Ci g x).1
theorem AQ {g:iP} (h:0<=g.pc/\g.pc<64):(bW g).put [2] (.int (IntKind.i64.wrap (g.pc+1)))=bW { g with pc:=g.pc+1}:=by
 rw [bK (by omega) (by omega)];exact qg _ _
theorem LZ {g:iP} (h:0<=g.pc/\g.pc<64):(bW { g with pc:=g.pc+1}).put [2] (.int (IntKind.i64.wrap (g.pc+1 - 1)))=bW g:=by
 rw [bK (by omega) (by omega),qg];congr 1;cases g;simp
theorem XT (p:aj) (f:fZ) (g:iP) (x:iG) (hf:wZ p f) (hx:Dt p f x) (hl:nP x.op=true) (hg:Az g) (j:0<=g.pc/\g.pc<64):AC Tryz.prog T aI 205 [bW g,aU x] [] (bW (kW g x)) []:=by
 refine aX Tryz.func205 ?_;have hr:=hf.regs;have a8:g.regs.length=8:=hg;have b0:(1<=x.op/\x.op<=36)\/(40<=x.op/\x.op<=45):=by simp [nP]at hl;omega
 have hn:=hx.num;have y:=hx.num2;have hc:=hx.const;have hm:=hx.move;have hj:=hx.jump;have a6:=hx.cond;simp only [iT,bg]at hn y hc hm hj a6;refine sg rfl (sg rfl ?_);refine sq (sq ?_);refine WP.ent (st':=aN [(3,.rp 120 (aU x)),(2,.ptr (.s 2 0) 1 0 []),(4,.ptr (.s 4 0) 1 0 [])] [(.s 2 0,.cells ⟨59,1,λ_=>bW { g with pc:=g.pc+1},0⟩),(.s 4 0,.cells ⟨59,1,λ_=>(T 59).zero,0⟩)]) (em [(.s 3 0,1)] ⟨sF,tt⟩ ⟨rq,cq,cq,tt⟩ ⟨obs rfl (hg:=q0 (ah (AQ j))),obs rfl,tt⟩) ?_;refine rg [] rfl (bk (sq (rg [] rfl ?_)));refine cd rfl (λo=>?_) (λo=>?_)
 ·(have e:x.op=40:=by simpa using o);have:=hc (.inl e);refine rgs [] rfl ?_ ?_;{simp [-List.getD_eq_getElem?_getD,ay,under];omega};refine sg rfl (rX ?_);refine bf hT rfl rfl rfl rfl rfl (ah ?_) rfl rfl rfl;rw [kW,aaW e];exact kN _ (by show x.a.toNat<g.regs.length;omega)
 (have k:x.op≠40:=by simpa using o);refine sg rfl (cd rfl (λq=>?_) (λq=>?_));{(have e:x.op=41:=by simpa using q);have:=hm e;refine drs [] rfl ?_ ?_;{simp [-List.getD_eq_getElem?_getD,ay,under];omega};refine sg rfl (rX ?_);refine bf hT rfl rfl rfl rfl rfl (ah ?_) rfl rfl rfl;rw [kW,MC k,aaW e];exact kN _ (by show x.a.toNat<g.regs.length;omega)};(have l:x.op≠41:=by simpa using q);refine sg rfl (cd rfl (λr=>?_) (λr=>?_));{(have e:x.op=42:=by simpa using r);refine rg [] rfl (sg rfl ?_);refine rX ?_;refine bf hT rfl rfl rfl rfl rfl (ah ?_) rfl rfl rfl;rw [kW,MC k,MC l,aaW e];exact qg _ _};(have m:x.op≠42:=by simpa using r);refine sg rfl (cd rfl (λt=>?_) (λt=>?_));{(have e:x.op=43:=by simpa using t);have:=hc (.inr (.inr (.inr (.inr e))));refine sq (rgs [] rfl ?_ ?_);{simp [-List.getD_eq_getElem?_getD,ay,under];omega};refine cd rfl (λh=>?_) (λh=>?_);{(have d:bD g x.a≠0:=by simp [-List.getD_eq_getElem?_getD]at h;exact h);refine rg [] rfl (sg rfl ?_);refine rX ?_;refine bf hT rfl rfl rfl rfl rfl (ah ?_) rfl rfl rfl;rw [kW,MC k,MC l,MC m,aaW e,aaW d];exact qg _ _};(have d:¬ bD g x.a≠0:=by simp [-List.getD_eq_getElem?_getD]at h;simpa using h);refine sk (sq (rg [] rfl ?_));refine rX ?_;refine bf hT rfl rfl rfl rfl rfl (ah ?_) rfl rfl rfl;rw [kW,MC k,MC l,MC m,aaW e,MC d];rfl};(have w:x.op≠43:=by simpa using t);refine sg rfl (cd rfl (λu=>?_) (λu=>?_));{(have e:x.op=44:=by simpa using u);have:=hc (.inr (.inl e));refine sq (rgs [] rfl ?_ ?_);{simp [-List.getD_eq_getElem?_getD,ay,under];omega};refine cd rfl (λi=>?_) (λi=>?_);{(have d:bD g x.a=0:=by simp [-List.getD_eq_getElem?_getD]at i;exact i);refine sg rfl (sq ?_);refine wE [(2,.ptr (.s 2 0) 1 0 []),(4,.ptr (.s 4 0) 1 0 [])] [(.s 2 0,.cells ⟨59,1,λ_=>bW g,0⟩),(.s 4 0,.cells ⟨59,1,λ_=>(T 59).zero,0⟩)] ⟨obs rfl (hg:=q0 (ah (LZ j))),obs rfl,tt⟩ (rgs [CG.pure (bW (kH g 4 1))] rfl ?_ ?_);{have hq:=FK g 4 1;exact au};refine rX ?_;refine bf hT rfl rfl rfl rfl rfl (ah ?_) rfl rfl rfl;rw [kW,MC k,MC l,MC m,MC w,aaW e,aaW d];rfl};(have d:¬ bD g x.a=0:=by simp [-List.getD_eq_getElem?_getD]at i;exact i);refine sk (sq (rg [] rfl ?_));refine rX ?_;refine bf hT rfl rfl rfl rfl rfl (ah ?_) rfl rfl rfl;rw [kW,MC k,MC l,MC m,MC w,aaW e,MC d];rfl};(have z:x.op≠44:=by simpa using u);refine sg rfl (cd rfl (λv=>?_) (λv=>?_));{(have e:x.op=45:=by simpa using v);refine sg rfl (sq ?_);refine wE [(2,.ptr (.s 2 0) 1 0 []),(4,.ptr (.s 4 0) 1 0 [])] [(.s 2 0,.cells ⟨59,1,λ_=>bW g,0⟩),(.s 4 0,.cells ⟨59,1,λ_=>(T 59).zero,0⟩)] ⟨obs rfl (hg:=q0 (ah (LZ j))),obs rfl,tt⟩ (rgs [CG.pure (bW (kH g 3 0))] rfl ?_ ?_);{have hq:=FK g 3 0;exact au};refine rX ?_;refine bf hT rfl rfl rfl rfl rfl (ah ?_) rfl rfl rfl;rw [kW,MC k,MC l,MC m,MC w,MC z,aaW e];rfl};(have e5:x.op≠45:=by simpa using v);have:=hn (by omega);refine sg rfl (WP.seqJ (α:=Unit) (λ_=>aN [(2,.ptr (.s 2 0) 1 0 []),(3,.rp 120 (aU x)),(4,.ptr (.s 4 0) 1 0 []),(5,.int (if x.op>15 then bD g x.c else 0))] [(.s 2 0,.cells ⟨59,1,λ_=>bW { g with pc:=g.pc+1},0⟩),(.s 4 0,.cells ⟨59,1,λ_=>(T 59).zero,0⟩)]) (λ_=>True) ?_ ?_);{refine sg rfl (cd rfl (λh4=>?_) (λh4=>?_));{(have a2:x.op>15:=by simpa using h4);have:=y (by omega);refine rgs [] rfl ?_ ?_;{simp [-List.getD_eq_getElem?_getD,ay,under];omega};refine ⟨(),?_,?_⟩;{trivial};refine eX ⟨cq,cq,cq,⟨rfl,_,rfl,ah (by rw [aaW a2])⟩,tt⟩ ⟨obs rfl,obs rfl,tt⟩};refine sk ⟨(),?_,?_⟩;{trivial};refine eX ⟨cq,cq,cq,⟨rfl,_,rfl,ah (by rw [MC (by simpa using h4)])⟩,tt⟩ ⟨obs rfl,obs rfl,tt⟩};rintro _ a5;refine sq (drs [CG.pure (.tup [.int (Ci g x).1,.int (Ci g x).2])] rfl ?_ ?_);{have hq:=Y5 x.op (bD g x.b) (if x.op>15 then bD g x.c else 0);exact au};refine sq (sq (rg [] rfl ?_));refine bk (sq (rg [] rfl ?_));refine cd rfl (λh8=>?_) (λh8=>?_);{(have d:(Ci g x).2=20:=by simpa using h8);refine sg rfl (sq ?_);refine wE [(2,.ptr (.s 2 0) 1 0 []),(4,.ptr (.s 4 0) 1 0 [])] [(.s 2 0,.cells ⟨59,1,λ_=>bW g,0⟩),(.s 4 0,.cells ⟨59,1,λ_=>(T 59).zero,0⟩)] ⟨obs rfl (hg:=q0 (ah (LZ j))),obs rfl,tt⟩ (rgs [CG.pure (bW (kH g 4 2))] rfl ?_ ?_);{have hq:=FK g 4 2;exact au};refine rX ?_;refine bf hT rfl rfl rfl rfl rfl (ah ?_) rfl rfl rfl;rw [kW,MC k,MC l,MC m,MC w,MC z,MC e5,aaW d];rfl};(have d:(Ci g x).2≠20:=by simpa using h8);refine sg rfl (cd rfl (λn=>?_) (λn=>?_));{(have hy:(Ci g x).2=21:=by simpa using n);refine sg rfl (sq ?_);refine wE [(2,.ptr (.s 2 0) 1 0 []),(4,.ptr (.s 4 0) 1 0 [])] [(.s 2 0,.cells ⟨59,1,λ_=>bW g,0⟩),(.s 4 0,.cells ⟨59,1,λ_=>(T 59).zero,0⟩)] ⟨obs rfl (hg:=q0 (ah (LZ j))),obs rfl,tt⟩ (rgs [CG.pure (bW (kH g 4 3))] rfl ?_ ?_);{have hq:=FK g 4 3;exact au};refine rX ?_;refine bf hT rfl rfl rfl rfl rfl (ah ?_) rfl rfl rfl;rw [kW,MC k,MC l,MC m,MC w,MC z,MC e5,MC d,aaW hy];rfl};(have hy:(Ci g x).2≠21:=by simpa using n);refine sk (rgs [] rfl ?_ ?_);{simp [-List.getD_eq_getElem?_getD,ay,under];omega};refine sg rfl (rX ?_);refine bf hT rfl rfl rfl rfl rfl (ah ?_) rfl rfl rfl;rw [kW,MC k,MC l,MC m,MC w,MC z,MC e5,MC d,MC hy];exact kN _ (by show x.a.toNat<g.regs.length;omega)
abbrev JZ (F:fZ) (g:iP):iG:=F.code.getD g.pc.toNat nR
def BH (F:fZ) (g:iP):Bool:=g.status==1&&nP (JZ F g).op
def lT (F:fZ):Nat->iP->iP
 | 0,g=>if BH F g then { g with status:=5}else g
 | n+1,g=>if BH F g then lT F n (kW g (JZ F g))else g
def zZ (F:fZ) (g:iP):Prop:=Az g/\bg g.pc F.code.length
theorem Ld {p:aj} {F:fZ} (hF:wZ p F) {n:Int} (h:bg n F.code.length) (he:uK (F.code.getD n.toNat nR).op=false):bg (n+1) F.code.length:=by
 have a:=hF.last;have b:=hF.code;unfold bg at h ⊢;refine ⟨by omega,?_⟩;rcases Int.lt_or_le (n+1) F.code.length with hl | hl
 ·exact hl
 (have e:n.toNat=F.code.length - 1:=by omega);rw [e]at he;unfold yD at a;rw [a]at he;cases he
theorem Hq {p:aj} {F:fZ} (hF:wZ p F) {n:Int} (h:bg n F.code.length):Dt p F (F.code.getD n.toNat nR):=by
 unfold bg at h;have a:n.toNat<F.code.length:=by omega
 rw [aaV,aaT a];exact hF.ins _ (acn a)
theorem CB {p:aj} {F:fZ} (hF:wZ p F) {g:iP} (hg:zZ F g) (hl:nP (JZ F g).op=true):zZ F (kW g (JZ F g))/\(kW g (JZ F g)).func=g.func:=by
 obtain ⟨d,c⟩:=hg;have hi:=Hq hF c;have hn:(JZ F g).op≠42->(JZ F g).op≠45->bg (g.pc+1) F.code.length:=λa b=>Ld hF c (by
  have:(JZ F g).op≠61:=by simp [-List.getD_eq_getElem?_getD,nP]at hl;omega
  simp only [uK,adW,aci]
  exact ⟨⟨a,b⟩,this⟩)
 have f:∀ r v,Az (rY { g with pc:=g.pc+1} r v):=λr v=>by show (g.regs.set _ _).length=8;rw [adw];exact d
 unfold kW;split
 ·rename_i e;exact ⟨⟨f _ _,hn (by omega) (by omega)⟩,rfl⟩
 split
 ·rename_i e;exact ⟨⟨f _ _,hn (by omega) (by omega)⟩,rfl⟩
 split
 ·rename_i e;exact ⟨⟨d,hi.jump e⟩,rfl⟩
 split
 ·rename_i e;split;{exact ⟨⟨d,hi.cond e⟩,rfl⟩};exact ⟨⟨d,hn (by omega) (by omega)⟩,rfl⟩
 split
 ·rename_i e;split;{exact ⟨⟨rfl,c⟩,rfl⟩};exact ⟨⟨d,hn (by omega) (by omega)⟩,rfl⟩
 split
 ·exact ⟨⟨rfl,c⟩,rfl⟩
 split
 ·exact ⟨⟨rfl,c⟩,rfl⟩
 split
 ·exact ⟨⟨rfl,c⟩,rfl⟩
 exact ⟨⟨f _ _,hn (by assumption) (by assumption)⟩,rfl⟩
theorem KG {p:aj} {F:fZ} (hF:wZ p F):∀ {n:Nat} {g:iP},zZ F g->zZ F (lT F n g)/\(lT F n g).func=g.func
 | 0,g,h=>by rw [lT];split;{exact ⟨⟨h.1,h.2⟩,rfl⟩};exact ⟨h,rfl⟩
 | n+1,g,h=>by rw [lT];split;{rename_i e;(have hl:nP (JZ F g).op=true:=by have a:=e;rw [BH,abh]at a;exact a.2);obtain ⟨b,c⟩:=CB hF h hl;obtain ⟨a,d⟩:=KG hF (n:=n) b;exact ⟨a,d.trans c⟩};exact ⟨h,rfl⟩
theorem FV:(T 59).zero=bW go0:=acY (λz=>bI 59 [.int 0,.int 0,.int 0,.int 0,z]) (FW _)
theorem VQ (t:Nat):(AV.agg t 4 λ_=>AV.int 0)=kY t 4 .i64 [0,0,0,0]:=bY λi=>by match i with | 0 | 1 | 2 | 3=>rfl | i+4=>rfl
theorem aaZ:(T 56).zero=dY Bd:=acY (λz=>bI 56 [z,.int 0,.bool false,.int 0,.int 0,.int 0]) (VQ _)
theorem zeroS:(T 62).zero=encS st0:=by
 have a:(AV.agg 57 4 λ_=>(T 56).zero)=zq 57 4 dY Bd st0.chans:=bY λi=>by rw [aaZ];match i with | 0 | 1 | 2 | 3=>rfl | i+4=>rfl
 have b:(AV.agg 60 6 λ_=>(T 59).zero)=zq 60 6 bW go0 st0.gos:=bY λi=>by rw [FV];match i with | 0 | 1 | 2 | 3 | 4 | 5=>rfl | i+6=>rfl
 show bI 62 [.agg 52 8 λ_ => .int 0,.agg 53 4 λ_ => .int 0,.agg 57 4 λ_=>(T 56).zero,.agg 60 6 λ_=>(T 59).zero,.int 0]=_;rw [a,b,FW,VQ];rfl
theorem Hw (n:Int):AC Tryz.prog T aI 142 [.int n] [] (.bool (decide (0<=n/\n<=4096))) []:=by
 refine aX Tryz.func142 ?_;refine sg rfl (sg rfl ?_);refine rX ?_;refine fin1 hT (by rfl) ?_;simp only [band];rw [acC];simp
theorem Gj (p:aj) (g:iP) (n:Nat) (hp:qH p) (hb:bg g.func p.funcs.length) (hg:zZ (bP p g) g) (hn:n<=4096):AC Tryz.prog T aI 143 [ak p,bW g,.int n] [] (bW (lT (bP p g) n g)) []:=by
 refine aX Tryz.func143 ?_;have hF:wZ p (bP p g):=hp.fn _ (by
  unfold bg at hb
  rw [bP,aaV,aaT (show g.func.toNat<p.funcs.length by omega)]
  exact acn _)
 have h:=hF.code;refine sg rfl (sq (rgs [] rfl ?_ ?_))
 ·unfold bg at hb;simp [-List.getD_eq_getElem?_getD,ay,under];omega
 refine sq (bk ?_);refine WP.loop (α:=Nat×iP) (λ(⟨k,x⟩:Nat×iP)=>aN [(2,.int k),(4,.ptr (.s 4 0) 1 0 []),(6,.ptr (.s 6 0) 1 0 []),(7,rowP 120 aU nR (bP p g).code)] [(.s 4 0,.cells ⟨59,1,λ_=>bW x,0⟩),(.s 6 0,.cells ⟨59,1,λ_=>(T 59).zero,0⟩)]) (λ(⟨k,x⟩:Nat×iP)=>lT (bP p g) k x=lT (bP p g) n g/\zZ (bP p g) x/\k<=n) (λ(⟨k,x⟩:Nat×iP)=>k) ?_ ?_
 ·refine ⟨⟨n,g⟩,?_,?_⟩;{exact ⟨rfl,hg,aa4 _⟩};refine eX cX ⟨obs rfl,obs rfl,tt⟩
 rintro ⟨k,x⟩ ⟨e,hx,hk⟩;have f:=hx.2;simp only [bg]at f;refine sq (sq (rgs [CG.pure (.bool (nP (JZ (bP p g) x).op))] rfl ?_ ?_));{have i:=Jq (JZ (bP p g) x).op;exact au};refine cd rfl (λc=>?_) (λc=>?_);{(have b:BH (bP p g) x=true:=by simp only [band]at c;exact c);(have hl:nP (JZ (bP p g) x).op=true:=by have a:=b;rw [BH,abh]at a;exact a.2);have hi:=Hq hF hx.2;refine sk (bk (sq (sq (rg [] rfl ?_))));refine cd rfl (λa=>?_) (λa=>?_);{(have d:k=0:=by simp at a;omega);subst d;refine sg rfl (sg rfl ?_);refine rX ?_;refine bf hT rfl rfl rfl rfl rfl (ah ?_) rfl rfl rfl;rw [<- e,lT,aaW b];exact gu _ _};(have d:0<k:=by simp at a;omega);obtain ⟨j,rfl⟩:∃ j,k=j+1:=⟨k - 1,by omega⟩;refine sk (sq (rg [] rfl ?_));refine drs [CG.pure (bW (kW x (JZ (bP p g) x)))] rfl ?_ ?_;{have i:=XT p (bP p g) x (JZ (bP p g) x) hF hi hl hx.1 (by omega);exact au};refine ⟨⟨j,kW x (JZ (bP p g) x)⟩,?_,?_,?_⟩;{rw [lT,aaW b]at e;exact ⟨e,(CB hF hx hl).1,by omega⟩};{refine eX ⟨⟨rfl,_,rfl,ah (by rw [bK (by omega) (by omega)];simp)⟩,cq,cq,cq,tt⟩ ⟨obs rfl,obs rfl,tt⟩};(try simp only []);first | omega | grind};(have b:BH (bP p g) x=false:=by simp only [band]at c;exact c);refine xt (sq (rg [] rfl ?_));refine rX ?_;refine bf hT rfl rfl rfl rfl rfl (ah ?_) rfl rfl rfl;rw [<- e];cases k with| zero=>rw [lT,MC (by rw [b];decide)];rfl| succ j=>rw [lT,MC (by rw [b];decide)];rfl
def lH (p:aj) (i:Nat):List Int:=(List.range 8).map λk=>if k<i then (p.vars.getD k MR).init else 0
theorem AP (p:aj) (i:Nat):(lH p i).length=8:=by simp [lH]
theorem Ht {p:aj} {i:Nat} (h:i<8):(lH p i).set i (p.vars.getD i MR).init=lH p (i+1):=by
 refine List.ext_getElem (by simp [lH]) λk b a=>?_;have hk:k<8:=by simpa [lH]using a
 rw [List.getElem_set];simp only [lH,aeN,aeB];split
 ·subst_vars;rw [aaW (by omega)]
 by_cases e:k<i;{rw [aaW e,aaW (by omega)]};rw [MC e,MC (by omega)]
def live0:iP:={ go0 with status:=1}
def PI (p:aj) (n:Nat):bM:={ st0 with vars:=lH p p.vars.length,gos:=[lT (aY p 0) n live0,go0,go0,go0,go0,go0],count:=1}
def aK (p:aj) (n:Int):bM×Int:=if eG p=false then (st0,3)else if ¬ (0<=n/\n<=4096)then (st0,1)else (PI p n.toNat,0)
theorem Yc {p:aj} (hp:qH p):zZ (aY p 0) live0:=⟨rfl,by have:=(hp.fn (aY p 0) (by rw [aY,aaV,aaT (show 0<p.funcs.length by have:=hp.funcs;omega)];exact acn _)).code;exact ⟨by decide,by show (0:Int)<_;omega⟩⟩
theorem Bl (p:aj) (n:Int):AC Tryz.prog T aI 101 [ak p,.int n] [] (.tup [encS (aK p n).1,.int (aK p n).2]) []:=by
 refine aX Tryz.func101 ?_;refine sg rfl (sq (sq (rgs [CG.pure (.bool (eG p))] rfl ?_ ?_)))
 ·have f:=Dx p;exact au
 refine cd rfl (λc=>?_) (λc=>?_)
 ·(have a:eG p=false:=by simpa using c);refine sg rfl (rX ?_);exact pR hT rfl rfl rfl (ah (by rw [aK,aaW a];exact zeroS)) (by rw [aK,aaW a])
 (have a:eG p=true:=by simpa using c);have hp:=kC a;refine sk (sq (sq (rgs [CG.pure (.bool (decide (0<=n/\n<=4096)))] rfl ?_ ?_)));{have f:=Hw n;exact au};refine cd rfl (λd=>?_) (λd=>?_);{(have hf:¬ (0<=n/\n<=4096):=by simp at d;omega);refine sg rfl (rX ?_);exact pR hT rfl rfl rfl (ah (by rw [aK,MC (by simp [a]),aaW hf];exact zeroS)) (by rw [aK,MC (by simp [a]),aaW hf])};(have hf:0<=n/\n<=4096:=by simpa using d);obtain ⟨k,rfl⟩:=aeI hf.1;have j:=hp.vars;(have g:(T 62).zero.put [4] (.int 1)=encS { st0 with count:=1,vars:=lH p 0}:=by rw [zeroS,xH];rfl);refine sk (sq (rg [] rfl ?_));refine sq (sq (rg [] rfl ?_));refine bk (WP.loop (α:=Nat) (λi=>aN [(1,.int k),(2,.rp 26 (ak p)),(4,.ptr (.s 4 0) 1 0 []),(6,.ptr (.s 6 0) 1 0 []),(19,rowP 116 LX MR p.vars),(20,.int p.vars.length),(21,.int i)] [(.s 4 0,.cells ⟨62,1,λ_=>(T 62).zero,0⟩),(.s 6 0,.cells ⟨62,1,λ_=>encS { st0 with count:=1,vars:=lH p i},0⟩)]) (λi=>i<=p.vars.length) (λi=>p.vars.length - i) ?_ ?_);{refine ⟨0,?_,?_⟩;{exact abO _};refine em [(.s 2 0,1)] ⟨sF,tt⟩ ⟨cq,rq,cq,cq,cq,cq,cq,tt⟩ ⟨obs rfl,obs rfl (hg:=q0 (ah g)),tt⟩};rintro i hi;refine sg rfl (sq ?_);refine cd rfl (λe=>?_) (λe=>?_);{(have b:i<p.vars.length:=by simp [-List.getD_eq_getElem?_getD]at e;omega);refine sk (sq (bk (sq (rgs [] rfl ?_ ?_))));{simp [-List.getD_eq_getElem?_getD,ay,under];omega};refine rgs [] rfl ?_ ?_;{simp [-List.getD_eq_getElem?_getD,ay,under];omega};refine rg [] rfl ⟨i+1,?_,?_,?_⟩;{exact b};{refine eX cX ⟨obs rfl,obs rfl (hg:=q0 (ah ((wu _ (by show _<(lH p i).length;rw [AP];omega)).trans (by simp only [ac9];rw [Ht (by omega)])))),tt⟩};(try simp only []);first | omega | grind};(have b:i=p.vars.length:=by simp [-List.getD_eq_getElem?_getD]at e;omega);subst b;(have h:(T 59).zero.put [0] (.int 1)=bW live0:=by rw [FV];exact gu _ _);refine xt (sq (rgs [CG.pure (bW (lT (aY p 0) k live0))] rfl ?_ ?_));{have f:=Gj p live0 k hp ⟨by decide,by have:=hp.funcs;show (0:Int)<_;omega⟩ (Yc hp) (by omega);rw [<- h]at f;exact au};refine sg rfl (rX ?_);refine pR hT rfl rfl rfl (ah ?_) (by rw [aK,MC (by simp [a]),MC (by simp;omega)]);rw [aK,MC (by simp [a]),MC (by simp;omega)];exact ng (by show 0<6;omega) rfl
def cO (p:aj) (s:bM) (g n:Int):bM×Int :=
 if eG p=false then (st0,3)else if ¬ dD p s then (st0,4)else if ¬ ((0<=g/\g<6)/\(0<=n/\n<=4096))then (st0,1)else if s.count<=g then (st0,9)else
 if (goI s g).status=1\/(goI s g).status=5 then ({ s with gos:=s.gos.set g.toNat (lT (bP p (goI s g)) n.toNat { goI s g with status:=1}) },0)else (s,0)
theorem Uo (p:aj) (s:bM) (g n:Int) (t:mZ s):AC Tryz.prog T aI 234 [ak p,encS s,.int g,.int n] [] (.tup [encS (cO p s g n).1,.int (cO p s g n).2]) []:=by
 refine aX Tryz.func234 ?_;refine sg rfl (sq (sq ?_));refine WP.ent (st':=aN [(4,.rp 26 (ak p)),(2,.int g),(3,.int n),(5,.ptr (.s 5 0) 1 0 []),(8,.ptr (.s 8 0) 1 0 [])] [(.s 5 0,.cells ⟨62,1,λ_=>encS s,0⟩),(.s 8 0,.cells ⟨62,1,λ_=>(T 62).zero,0⟩)]) (em [(.s 4 0,1)] ⟨sF,tt⟩ ⟨rq,cq,cq,cq,cq,tt⟩ ⟨obs rfl,obs rfl,tt⟩) ?_;refine rgs [CG.pure (.bool (eG p))] rfl ?_ ?_
 ·have m:=Dx p;exact au
 refine cd rfl (λo=>?_) (λo=>?_)
 ·(have j:eG p=false:=by simpa using o);refine sg rfl (rX ?_);exact pR hT rfl rfl rfl (ah (by rw [cO,aaW j];exact zeroS)) (by rw [cO,aaW j])
 (have j:eG p=true:=by simpa using o);have hp:=kC j;(have hr0:¬ eG p=false:=by simp [j]);refine sk (sq (sq (rgs [CG.pure (.bool (decide (dD p s)))] rfl ?_ ?_)));{have m:=MS p s t;exact au};refine cd rfl (λq=>?_) (λq=>?_);{(have l:¬ dD p s:=by simpa using q);refine sg rfl (rX ?_);exact pR hT rfl rfl rfl (ah (by rw [cO,MC hr0,aaW l];exact zeroS)) (by rw [cO,MC hr0,aaW l])};(have l:dD p s:=by simpa using q);have b:¬ ¬ dD p s:=λh=>h l;refine sk (sq (sq (rgs [CG.pure (.bool (decide (0<=n/\n<=4096)))] rfl ?_ ?_)));{have m:=Hw n;exact au};refine cd rfl (λf=>?_) (λf=>?_);{(have i:¬ ((0<=g/\g<6)/\(0<=n/\n<=4096)):=by simp only [fE]at f;simp at f;omega);refine sg rfl (rX ?_);exact pR hT rfl rfl rfl (ah (by rw [cO,MC hr0,MC b,aaW i];exact zeroS)) (by rw [cO,MC hr0,MC b,aaW i])};(have i:(0<=g/\g<6)/\(0<=n/\n<=4096):=by simp only [fE]at f;simp at f;omega);have c:¬ ¬ ((0<=g/\g<6)/\(0<=n/\n<=4096)):=λh=>h i;refine sk (sq (sq (rg [] rfl ?_)));refine cd rfl (λr=>?_) (λr=>?_);{(have hc:s.count<=g:=by simpa using r);refine sg rfl (rX ?_);exact pR hT rfl rfl rfl (ah (by rw [cO,MC hr0,MC b,MC c,aaW hc];exact zeroS)) (by rw [cO,MC hr0,MC b,MC c,aaW hc])};(have hc:¬ s.count<=g:=by simpa using r);have v:=t.gos;refine sk (sq (sq (rgs [] rfl ?_ ?_)));{simp [-List.getD_eq_getElem?_getD,ay,under];omega};refine sg rfl (cd rfl (λa=>?_) (λa=>?_));{(have d:(goI s g).status=1\/(goI s g).status=5:=by simp only [fE]at a;simp [-List.getD_eq_getElem?_getD]at a;exact a);have e:=(l.2.2.2.2.1 g.toNat (by omega)).1 (by omega);have u:(bW (goI s g)).put [0] (.int 1)=bW { goI s g with status:=1}:=gu _ _;obtain ⟨k,rfl⟩:=aeI i.2.1;refine sg rfl (rgs [CG.pure (bW (lT (bP p (goI s g)) k { goI s g with status:=1}))] rfl ?_ ?_);{have m:=Gj p { goI s g with status:=1} k hp e.2.1 ⟨gW t _,e.2.2.1⟩ (by omega);rw [<- u]at m;exact au};refine sg rfl (rX ?_);refine pR hT rfl rfl rfl (ah ?_) (by rw [cO,MC hr0,MC b,MC c,MC hc,aaW d]);rw [cO,MC hr0,MC b,MC c,MC hc,aaW d];exact ng (by omega) (SE _ _)};(have d:¬ ((goI s g).status=1\/(goI s g).status=5):=by simp only [fE]at a;simp [-List.getD_eq_getElem?_getD]at a;exact λh=>h.elim a.1 a.2);refine sk (sq (rg [] rfl ?_));refine rX ?_;refine pR hT rfl rfl rfl (ah ?_) (by rw [cO,MC hr0,MC b,MC c,MC hc,MC d]);rw [cO,MC hr0,MC b,MC c,MC hc,MC d];rfl
theorem bZ {α:Type} (l:List α) (x:α):(l++[x]).length=l.length+1:=by simp
def lF (g:iP):Bool:=g.status==1||g.status==2
def kX (s:bM):Nat->List Int
 | 0=>[]
 | k+1=>kX s k++(if lF (s.gos.getD k go0)=true then [(k:Int)]else [])
abbrev iw (s:bM):List Int:=kX s 6
theorem uh (s:bM):∀ k,(kX s k).length<=k
 | 0=>aa4 _
 | k+1=>by have:=uh s k;rw [kX,adp];split <;> simp <;> omega
theorem qU {s:bM} {x:Int}:∀ {k:Nat},x∈kX s k ↔ ∃ j:Nat,j<k/\x=j/\lF (s.gos.getD j go0)=true
 | 0=>by simp [kX]
 | k+1=>by rw [kX,aep,qU];constructor;{rintro (⟨j,c,a,b⟩ | h);{exact ⟨j,by omega,a,b⟩};split at h;{rename_i hb;exact ⟨k,by omega,by simpa using h,hb⟩};cases h};rintro ⟨j,c,a,b⟩;by_cases e:j=k;{subst e;exact .inr (by rw [aaW b];simpa using a)};exact .inl ⟨j,by omega,a,b⟩
theorem Z9 (s:bM):AC Tryz.prog T aI 115 [encS s] [] (ints false (iw s)) []:=by
 refine aX Tryz.func115 ?_;refine sg rfl (sg rfl ?_);refine sq (sq (rg [] rfl ?_));refine bk (WP.loop (α:=Nat) (λv=>aN [(3,.own (.s 23 0) (kX s v).length 0 (kX s v).length none),(7,zq 60 6 bW go0 s.gos),(8,.int v)] [(.s 23 0,pJ 3 .i64 (kX s v))]) (λv=>v<=6) (λv=>6 - v) ?_ ?_)
 ·refine ⟨0,?_,?_⟩;{omega};refine eX ⟨⟨rfl,_,rfl,gX⟩,cq,cq,tt⟩ ⟨⟨λ_ _=>rfl,.inr ⟨rfl,3,_,rfl,by decide⟩⟩,tt⟩
 rintro v f;refine sg rfl (sq ?_);refine cd rfl (λc=>?_) (λc=>?_);{(have b:v<6:=by simp [-List.getD_eq_getElem?_getD]at c;omega);have hlen:=uh s v;refine sk (sq (bk (sq (rgs [] rfl ?_ ?_))));{simp [-List.getD_eq_getElem?_getD,ay,under];omega};refine sg rfl (cd rfl (λa=>?_) (λa=>?_));{(have hb:lF (s.gos.getD v go0)=true:=by simp only [fE,ac9]at a;exact a);refine rgs [] rfl ?_ ?_;{have d:(T 3).bytes=8:=rfl;simp [ay,under,d];omega};refine rg [] rfl ⟨v+1,?_,?_,?_⟩;{omega};{refine eX ⟨⟨rfl,_,rfl,ah (by rw [kX,aaW hb,bZ])⟩,cq,cq,tt⟩ ⟨o9 rfl rfl (by rw [kX,aaW hb,bZ]) rfl rfl (by rw [kX,aaW hb];exact app1 (z:=(T 3).zero) rfl (λq e=>rfl)),tt⟩};(try simp only []);first | omega | grind};(have hb:lF (s.gos.getD v go0)=false:=by simp only [fE,ac9]at a;exact a);refine sk (rg [] rfl ?_);refine ⟨v+1,?_,?_,?_⟩;{omega};{refine eX ⟨⟨rfl,_,rfl,ah (by rw [kX,MC (by rw [hb];decide),adC])⟩,cq,cq,tt⟩ ⟨o9 rfl rfl (by rw [kX,MC (by rw [hb];decide),adC]) rfl rfl (λq e=>by rw [kX,MC (by rw [hb];decide),adC]),tt⟩};(try simp only []);first | omega | grind};(have b:v=6:=by simp [-List.getD_eq_getElem?_getD]at c;omega);subst b;refine xt (sq (rg [] rfl ?_));refine rX ?_;refine aG hT [(.s 23 0,(iw s).length)] (ts:=[(2,ints false (iw s))]) (l:=[ints false (iw s)]) ⟨⟨_,rfl,aa4 _⟩,tt⟩ ⟨⟨rfl,_,rfl,?_⟩,tt⟩ trivial rfl rfl rfl;exact gK rfl rfl rfl (λh=>by cases h) (by simp [dO,aT]) (λq e=>by rw [acW];exact ⟨rfl,vk.refl _⟩)
theorem Gh (s:bM) (g:Int) (hg:0<=g/\g<6):AC Tryz.prog T aI 158 [encS s,.int g] [] (.bool (lF (goI s g))) []:=by
 refine aX Tryz.func158 ?_;refine sg rfl (sq ?_);refine WP.ent (st':=aN [(2,.rp 62 (encS s)),(1,.int g)] []) (em [(.s 2 0,1)] ⟨sF,tt⟩ ⟨rq,cq,tt⟩ trivial) ?_;refine rgs [] rfl ?_ ?_
 ·simp [-List.getD_eq_getElem?_getD,ay,under];omega
 refine rX ?_;exact fin1 hT (by rfl) (by rw [fE];rfl)
structure dX (p:aj) (s:bM) (g:Int):Prop where
 ok:mZ s
 valid:dD p s
 live:lF (goI s g)=true
 pos:0<=g/\g<6
theorem dX.prog {p:aj} {s:bM} {g:Int} (h:dX p s g):qH p:=kC h.valid.1
theorem dX.lt {p:aj} {s:bM} {g:Int} (h:dX p s g):g<s.count:=by
 rcases Int.lt_or_le g s.count with b | b
 ·exact b
 have c:=(h.valid.2.2.2.2.1 g.toNat (by have:=h.pos;omega)).2 (by have:=h.pos;omega);have a:=h.live;unfold goI at a;rw [c]at a;cases a
theorem dX.fit {p:aj} {s:bM} {g:Int} (h:dX p s g):oU p (goI s g):=(h.valid.2.2.2.2.1 g.toNat (by have:=h.pos;omega)).1 (by have:=h.pos;have:=h.lt;omega)
theorem dX.fn {p:aj} {s:bM} {g:Int} (h:dX p s g):wZ p (bP p (goI s g)):=h.prog.fn _ (by
 have:=h.fit.2.1;unfold bg at this;rw [bP,aaV,aaT (show (goI s g).func.toNat<p.funcs.length by omega)];exact acn _)
theorem dX.ins {p:aj} {s:bM} {g:Int} (h:dX p s g):Dt p (bP p (goI s g)) (insOf p (goI s g)):=Hq h.fn h.fit.2.2.1
theorem Ov {p:aj} {s:bM} {g:Int}:∀ {c:Nat},uI p s g c≠0 -> ∃ k,k<c/\k<p.chans.length/\(bH s k).offer≠0/\(bH s k).frm=g
 | c+1,h=>by rw [uI]at h;split at h;{rename_i e;exact ⟨c,by omega,e.1,e.2.1,e.2.2⟩};obtain ⟨k,b,a⟩:=Ov (c:=c) (by simpa using h);exact ⟨k,by omega,a⟩
theorem dX.wait {p:aj} {s:bM} {g:Int} (h:dX p s g) (hw:(goI s g).status=2):(insOf p (goI s g)).op=58 /\ ∃ k:Nat,k<p.chans.length/\(insOf p (goI s g)).a=k/\(bH s k).offer≠0/\(bH s k).frm=g:=by
 have hp:=h.pos;have i:=h.valid.2.2.2.2.2.2 g.toNat (by omega) hw;obtain ⟨k,j,d,e,f⟩:=Ov (c:=4) (by rw [i];decide);have b:=((h.valid.2.2.2.2.2.1 k j).1 d).2.2.2.2.2.2 e;rw [f]at b;rw [aey hp.1]at b;exact ⟨b.2.2.2.1,k,d,b.2.2.2.2,e,by rw [f];exact aey hp.1⟩
def aW (p:aj) (s:bM) (g:Int):iG:=if (goI s g).status=2 then { insOf p (goI s g)with op:=66}else insOf p (goI s g)
theorem UN (x:iG) (n:Int):(aU x).put [0] (.int n)=aU { x with op:=n}:=dB (ab6 rfl)
theorem TV (p:aj) (s:bM) (g:Int) (h:dX p s g):AC Tryz.prog T aI 131 [ak p,encS s,.int g] [] (aU (aW p s g)) []:=by
 refine aX Tryz.func131 ?_;refine sg rfl (sq ?_);refine WP.ent (st':=aN [(3,.rp 26 (ak p)),(4,.rp 62 (encS s)),(2,.int g),(6,.ptr (.s 6 0) 1 0 [])] [(.s 6 0,.cells ⟨120,1,λ_=>(T 120).zero,0⟩)]) (em [(.s 3 0,1),(.s 4 0,1)] ⟨sF,sF,tt⟩ ⟨rq,rq,cq,cq,tt⟩ ⟨obs rfl,tt⟩) ?_;refine drs [] rfl ?_ ?_
 ·have b:=h.pos;have a:=h.fit.2.1;have c:=h.fit.2.2.1;simp only [bg,bP,goI]at a c;simp [-List.getD_eq_getElem?_getD,ay,under];omega
 refine sq (sq (rgs [] rfl ?_ ?_))
 ·have b:=h.pos;simp [-List.getD_eq_getElem?_getD,ay,under];omega
 refine cd rfl (λa=>?_) (λa=>?_)
 ·(have hw:(goI s g).status=2:=by simp [-List.getD_eq_getElem?_getD]at a;exact a);refine rg [] rfl (sg rfl ?_);refine rX ?_;exact bf hT rfl rfl rfl rfl rfl (ah (by rw [aW,aaW hw];exact UN _ _)) rfl rfl rfl
 (have hw:¬ (goI s g).status=2:=by simp [-List.getD_eq_getElem?_getD]at a;exact a);refine sk (sq (rg [] rfl ?_));refine rX ?_;exact bf hT rfl rfl rfl rfl rfl (ah (by rw [aW,MC hw];rfl)) rfl rfl rfl
def jP (p:aj) (s:bM) (c:Int):Bool:=(bV s c).closed||(decide (p.chans.getD c.toNat 0>0)&&decide ((bV s c).len<p.chans.getD c.toNat 0))||(p.chans.getD c.toNat 0==0&&(bV s c).offer==0)
def BN (s:bM) (c:Int):Bool:=decide ((bV s c).len>0)||(bV s c).closed||(bV s c).offer==1
theorem Nv (p:aj) (s:bM) (c:Int) (hc:bg c p.chans.length) (a:p.chans.length<=4):AC Tryz.prog T aI 166 [ak p,encS s,.int c] [] (.bool (jP p s c)) []:=by
 refine aX Tryz.func166 ?_;unfold bg at hc;refine sg rfl (sq ?_);refine WP.ent (st':=aN [(3,.rp 26 (ak p)),(4,.rp 62 (encS s)),(2,.int c)] []) (em [(.s 3 0,1),(.s 4 0,1)] ⟨sF,sF,tt⟩ ⟨rq,rq,cq,tt⟩ trivial) ?_;refine rgs [] rfl ?_ ?_
 ·simp [-List.getD_eq_getElem?_getD,ay,under];omega
 refine sq (drs [] rfl ?_ ?_)
 ·exact au
 refine rX ?_;exact fin1 hT (by rfl) (by simp only [fE,band];rfl)
theorem Ep (s:bM) (c:Int) (hc:0<=c/\c<4):AC Tryz.prog T aI 167 [encS s,.int c] [] (.bool (BN s c)) []:=by
 refine aX Tryz.func167 ?_;refine sg rfl (sq ?_);refine WP.ent (st':=aN [(2,.rp 62 (encS s)),(1,.int c)] []) (em [(.s 2 0,1)] ⟨sF,tt⟩ ⟨rq,cq,tt⟩ trivial) ?_;refine rgs [] rfl ?_ ?_
 ·simp [-List.getD_eq_getElem?_getD,ay,under];omega
 refine sg rfl (rX ?_);exact fin1 hT (by rfl) (by simp only [fE,band];rfl)
def jF (s:bM) (g k:Int):Bool:=decide (0<=k/\k<s.count/\k≠g)
theorem F8 (s:bM) (g k:Int):AC Tryz.prog T aI 220 [encS s,.int g,.int k] [] (.bool (jF s g k)) []:=by
 refine aX Tryz.func220 ?_;refine sg rfl (sg rfl ?_);refine rX ?_;refine fin1 hT (by rfl) ?_;simp only [band];rw [acC,jF];simp;omega
def iU (p:aj) (s:bM) (g:Int):Bool :=
 if (aW p s g).op=54 then jv s (aW p s g).a==bD (goI s g) (aW p s g).b else if (aW p s g).op=55 then mM s (aW p s g).a==0 else if (aW p s g).op=58 then jP p s (aW p s g).a else
 if (aW p s g).op=59 then BN s (aW p s g).b else if (aW p s g).op=66 then (bV s (aW p s g).a).offer != 1 else
 if (aW p s g).op=63 then (!jF s g (bD (goI s g) (aW p s g).a) || !lF (goI s (bD (goI s g) (aW p s g).a)))else yF (aW p s g).op
structure AtP (p:aj) (s:bM) (g:Int):Prop where
 await:(aW p s g).op=54->(0<=(aW p s g).a/\(aW p s g).a<8)/\(0<=(aW p s g).b/\(aW p s g).b<8)
 lock:(aW p s g).op=55\/(aW p s g).op=56->0<=(aW p s g).a/\(aW p s g).a<4
 send:(aW p s g).op=58\/(aW p s g).op=60\/(aW p s g).op=66->bg (aW p s g).a p.chans.length
 recv:(aW p s g).op=59->bg (aW p s g).b p.chans.length
 join:(aW p s g).op=63\/(aW p s g).op=65->0<=(aW p s g).a/\(aW p s g).a<8
 ins:(aW p s g).op≠66->aW p s g=insOf p (goI s g)
theorem dX.at {p:aj} {s:bM} {g:Int} (h:dX p s g):AtP p s g:=by
 have hp:=h.prog;have m:=hp.vars;have hl:=hp.locks;have l:=h.fn.regs;have hi:=h.ins;by_cases hw:(goI s g).status=2
 ·obtain ⟨i,k,j,c,_⟩:=h.wait hw;(have e:(aW p s g).op=66:=by rw [aW,aaW hw]);(have f:(aW p s g).a=k:=by rw [aW,aaW hw];exact c);refine ⟨λh=>by omega,λh=>by omega,λ_=>?_,λh=>by omega,λh=>by omega,λh=>absurd e h⟩;unfold bg;omega
 (have e:aW p s g=insOf p (goI s g):=by rw [aW,MC hw]);(have b:(insOf p (goI s g)).op≠66:=by intro d;have:=hi.op;rw [d]at this;revert this;decide);rw [<- e]at hi b;refine ⟨λh=>?_,λh=>?_,λh=>?_,λh=>(hi.recv h).2.1,λh=>?_,λ_=>e⟩;{have:=hi.store (.inr h);unfold iT bg at this;omega};{have:=hi.lock h;omega};{rcases h with h | h | h;{exact (hi.send h).1};{exact hi.close h};exact absurd h b};have:=hi.const (by omega);unfold iT at this;omega
theorem Ug (p:aj) (s:bM) (g:Int) (h:dX p s g):AC Tryz.prog T aI 164 [ak p,encS s,.int g] [] (.bool (iU p s g)) []:=by
 refine aX Tryz.func164 ?_;have l:=h.at;have o:=h.pos;have n:=h.prog.chans;have t:=h.valid.2.1.2;refine sg rfl (sq ?_);refine WP.ent (st':=aN [(3,.rp 26 (ak p)),(4,.rp 62 (encS s)),(2,.int g)] []) (em [(.s 3 0,1),(.s 4 0,1)] ⟨sF,sF,tt⟩ ⟨rq,rq,cq,tt⟩ trivial) ?_;refine rgs [CG.pure (aU (aW p s g))] rfl ?_ ?_
 ·have m:=TV p s g h;exact au
 refine sq (WP.ent (st':=aN [(7,.rp 120 (aU (aW p s g))),(2,.int g),(3,.rp 26 (ak p)),(4,.rp 62 (encS s))] []) (em [(.s 7 0,1)] ⟨sF,tt⟩ ⟨rq,cq,cq,cq,tt⟩ trivial) ?_);refine rgs [] rfl ?_ ?_
 ·simp [-List.getD_eq_getElem?_getD,ay,under];omega
 refine sq (sq ?_);refine WP.ent (st':=aN [(8,.rp 52 (kY 52 8 .i64 (goI s g).regs)),(2,.int g),(3,.rp 26 (ak p)),(4,.rp 62 (encS s)),(7,.rp 120 (aU (aW p s g)))] []) (em [(.s 8 0,1)] ⟨sF,tt⟩ ⟨rq,cq,cq,cq,cq,tt⟩ trivial) ?_;refine rg [] rfl (bk (sq (rg [] rfl ?_)));refine cd rfl (λn=>?_) (λn=>?_)
 ·(have c:(aW p s g).op=54:=by simpa using n);have:=l.await c;refine sq (drs [] rfl ?_ ?_);{simp [-List.getD_eq_getElem?_getD,ay,under];omega};exact WP.ret (fin1 hT (by rfl) (by rw [iU,aaW c]))
 (have c:(aW p s g).op≠54:=by simpa using n);refine sg rfl (cd rfl (λo=>?_) (λo=>?_));{(have d:(aW p s g).op=55:=by simpa using o);have:=l.lock (.inl d);refine sq (rgs [] rfl ?_ ?_);{simp [-List.getD_eq_getElem?_getD,ay,under];omega};exact WP.ret (fin1 hT (by rfl) (by rw [iU,MC c,aaW d]))};(have d:(aW p s g).op≠55:=by simpa using o);refine sg rfl (cd rfl (λq=>?_) (λq=>?_));{(have f:(aW p s g).op=58:=by simpa using q);refine sq (rgs [CG.pure (.bool (jP p s (aW p s g).a))] rfl ?_ ?_);{have m:=Nv p s (aW p s g).a (l.send (.inl f)) h.prog.chans;exact au};exact WP.ret (fin1 hT (by rfl) (by rw [iU,MC c,MC d,aaW f]))};(have f:(aW p s g).op≠58:=by simpa using q);refine sg rfl (cd rfl (λi=>?_) (λi=>?_));{(have e10:(aW p s g).op=59:=by simpa using i);have hb:=l.recv e10;unfold bg at hb;refine sq (rgs [CG.pure (.bool (BN s (aW p s g).b))] rfl ?_ ?_);{have m:=Ep s (aW p s g).b (by have:=h.prog.chans;omega);exact au};exact WP.ret (fin1 hT (by rfl) (by rw [iU,MC c,MC d,MC f,aaW e10]))};(have e10:(aW p s g).op≠59:=by simpa using i);refine sg rfl (cd rfl (λj=>?_) (λj=>?_));{(have e12:(aW p s g).op=66:=by simpa using j);have hb:=l.send (.inr (.inr e12));unfold bg at hb;have:=h.prog.chans;refine sq (rgs [] rfl ?_ ?_);{simp [-List.getD_eq_getElem?_getD,ay,under];omega};exact WP.ret (fin1 hT (by rfl) (by rw [iU,MC c,MC d,MC f,MC e10,aaW e12]))};(have e12:(aW p s g).op≠66:=by simpa using j);refine sg rfl (cd rfl (λk=>?_) (λk=>?_));{(have e14:(aW p s g).op=63:=by simpa using k);have hb:=l.join (.inl e14);refine sq (drs [CG.pure (.bool (jF s g (bD (goI s g) (aW p s g).a))),CG.pure (.bool (lF (goI s (bD (goI s g) (aW p s g).a))))] rfl ?_ ?_);{have m:=F8 s g (bD (goI s g) (aW p s g).a);have r:jF s g (bD (goI s g) (aW p s g).a)=true->_:=λe=>Gh s (bD (goI s g) (aW p s g).a) (by simp only [jF,ab8]at e;omega);simp only [ay,under,CG.pure];(repeat' with_reducible refine And.intro ?_ ?_);(all_goals (try with_reducible intros));all_goals (first | exact trivial | assumption | omega | exact m | (refine r ?_;simp_all;done) | (simp_all;done))};exact WP.ret (fin1 hT (by rfl) (by rw [iU,MC c,MC d,MC f,MC e10,MC e12,aaW e14,fE]))};(have e14:(aW p s g).op≠63:=by simpa using k);refine sk (sq (rgs [CG.pure (.bool (yF (aW p s g).op))] rfl ?_ ?_));{have m:=NY (aW p s g).op;exact au};exact WP.ret (fin1 hT (by rfl) (by rw [iU,MC c,MC d,MC f,MC e10,MC e12,MC e14]))
def kE (l:List Int) (k:Int) (b:Bool):List Int:=if b then l++[k]else l
def Tm (l:List Int):List Ob:=[.cells ⟨23,1,λ_ => .own (.b 1) l.length 0 l.length none,0⟩,pJ 3 .i64 l]
theorem Tj (l:List Int) (k:Int) (b:Bool) (hl:l.length<=100):AC Tryz.prog T aI 165 [.int k,.bool b,.ptr (.b 0) 1 0 []] [.cells ⟨23,1,λ_ => .own (.b 1) l.length 0 l.length none,0⟩,pJ 3 .i64 l] (.tup []) [.cells ⟨23,1,λ_ => .own (.b 1) (kE l k b).length 0 (kE l k b).length none,0⟩,pJ 3 .i64 (kE l k b)]:=by
 refine aX Tryz.func165 ?_;refine sg rfl (cd rfl (λa=>?_) (λa=>?_))
 ·refine rgs [] rfl ?_ ?_
  ·have c:(T 3).bytes=8:=rfl;simp [ay,under,c];omega
  change Fin ..
  first
  | (refine aG hT [] (ts:=[]) (l:=[]) trivial trivial ⟨obs rfl (hg:=q0 (ah (by rw [kE,aaW a,bZ];rfl))),o9 rfl rfl (by rw [kE,aaW a,bZ]) rfl rfl (by rw [kE,aaW a];exact app1 (z:=(T 3).zero) rfl (λq d=>rfl)),tt⟩ rfl rfl rfl)
  | (
   have e:kE l k b=l:=by rw [kE,a];rfl
   rw [e]
   exact aG hT [] (ts:=[]) (l:=[]) trivial trivial ⟨obs rfl,o9 rfl rfl rfl rfl rfl (λq d=>rfl),tt⟩ rfl rfl rfl)
 ·refine sk ?_
  change Fin ..
  first
  | (refine aG hT [] (ts:=[]) (l:=[]) trivial trivial ⟨obs rfl (hg:=q0 (ah (by rw [kE,aaW a,bZ];rfl))),o9 rfl rfl (by rw [kE,aaW a,bZ]) rfl rfl (by rw [kE,aaW a];exact app1 (z:=(T 3).zero) rfl (λq d=>rfl)),tt⟩ rfl rfl rfl)
  | (
   have e:kE l k b=l:=by rw [kE,a];rfl
   rw [e]
   exact aG hT [] (ts:=[]) (l:=[]) trivial trivial ⟨obs rfl,o9 rfl rfl rfl rfl rfl (λq d=>rfl),tt⟩ rfl rfl rfl)
def wY (p:aj) (s:bM) (c:zu):Bool:=(c.send&&jP p s c.chan)||(!c.send&&BN s c.chan)
def fK (p:aj) (s:bM) (q:uF):Nat->List Int
 | 0=>[]
 | k+1=>kE (fK p s q k) k (wY p s (aA q k))
theorem yc (p:aj) (s:bM) (q:uF):∀ k,(fK p s q k).length<=k
 | 0=>aa4 _
 | k+1=>by have:=yc p s q k;rw [fK,kE];split <;> simp <;> omega
abbrev bJ (p:aj) (s:bM) (g:Int):uF:=aP (bP p (goI s g)) (aW p s g).a.toNat
def iK (p:aj) (s:bM) (g:Int):List Int :=
 if (aW p s g).op≠61 then (if iU p s g then [0]else [])else
 kE (fK p s (bJ p s g) (bJ p s g).cases.length) (bJ p s g).cases.length ((fK p s (bJ p s g) (bJ p s g).cases.length).length==0&&(bJ p s g).els != -1)
theorem dX.sel {p:aj} {s:bM} {g:Int} (h:dX p s g) (e:(aW p s g).op=61):bg (aW p s g).a (bP p (goI s g)).sels.length/\aaJ p (bP p (goI s g)) (bJ p s g):=by
 have b:=h.at.ins (by rw [e];decide);have c:bg (aW p s g).a (bP p (goI s g)).sels.length:=by rw [b];exact h.ins.sel (by rw [<- b];exact e)
 refine ⟨c,?_⟩;unfold bg at c;unfold bJ aP;rw [aaV,aaT (show (aW p s g).a.toNat<(bP p (goI s g)).sels.length by omega)];exact h.fn.sel _ (acn _)
theorem Dn {p:aj} {s:bM} {g:Int} (h:dX p s g):(iK p s g).length<=5:=by
 unfold iK;split
 ·split <;> simp
 rename_i e;have:=(h.sel (by simpa using e)).2.len;have a:=yc p s (bJ p s g) (bJ p s g).cases.length;rw [kE];split <;> simp [-List.getD_eq_getElem?_getD] <;> omega
theorem TY (p:aj) (s:bM) (g:Int) (h:dX p s g):AC Tryz.prog T aI 116 [ak p,encS s,.int g] [] (ints false (iK p s g)) []:=by
 refine aX Tryz.func116 ?_;have h6:=h.pos;have v:=h.prog.chans;refine sg rfl (sq ?_);refine WP.ent (st':=aN [(3,.rp 26 (ak p)),(4,.rp 62 (encS s)),(2,.int g)] []) (em [(.s 3 0,1),(.s 4 0,1)] ⟨sF,sF,tt⟩ ⟨rq,rq,cq,tt⟩ trivial) ?_;refine rgs [CG.pure (aU (aW p s g))] rfl ?_ ?_
 ·have n:=TV p s g h;exact au
 refine sq (sq ?_);refine WP.ent (st':=aN [(7,.rp 120 (aU (aW p s g))),(2,.int g),(3,.rp 26 (ak p)),(4,.rp 62 (encS s))] []) (em [(.s 7 0,1)] ⟨sF,tt⟩ ⟨rq,cq,cq,cq,tt⟩ trivial) ?_;refine rg [] rfl (cd rfl (λo=>?_) (λo=>?_))
 ·(have a:(aW p s g).op≠61:=by simpa using o);refine sq (sq (rgs [CG.pure (.bool (iU p s g))] rfl ?_ ?_));{have n:=Ug p s g h;exact au};refine cd rfl (λr=>?_) (λr=>?_);{refine sg rfl (rX ?_);refine aG hT [] (ts:=[(6,ints false (iK p s g))]) (l:=[ints false (iK p s g)]) trivial ⟨⟨rfl,_,rfl,?_⟩,tt⟩ trivial rfl rfl rfl;(have e:iK p s g=[0]:=by rw [iK,aaW a,aaW r]);rw [e];exact zL (λh=>by cases h) (λi hi=>by obtain rfl:i=0:=Nat.lt_one_iff.1 hi;rfl)};refine sk (sq (rg [] rfl ?_));refine rX ?_;refine aG hT [] (ts:=[(6,ints false (iK p s g))]) (l:=[ints false (iK p s g)]) trivial ⟨⟨rfl,_,rfl,?_⟩,tt⟩ trivial rfl rfl rfl;(have e:iK p s g=[]:=by rw [iK,aaW a,MC (by rw [r];decide)]);rw [e];exact dG (by decide)
 (have a:(aW p s g).op=61:=by simpa using o);have f:=h.sel a;have a1:=f.2.len;have u:=f.1;have t:=h.fit.2.1;refine sk (sq (rg [] rfl ?_));refine sq (drs [] rfl ?_ ?_);{simp only [bg,bP,goI]at u t;simp [-List.getD_eq_getElem?_getD,ay,under];omega};refine sq (WP.ent (st':=aN [(9,.rp 103 (jK (bJ p s g))),(3,.rp 26 (ak p)),(4,.rp 62 (encS s)),(8,.ptr (.s 8 0) 1 0 [])] [(.s 8 0,.cells ⟨23,1,λ_ => .nils,0⟩)]) (em [(.s 9 0,1)] ⟨sF,tt⟩ ⟨rq,cq,cq,cq,tt⟩ ⟨obs rfl,tt⟩) ?_);refine rg [] rfl (sq (sq (rg [] rfl ?_)));refine bk (WP.loop (α:=Nat) (λk=>aN [(3,.rp 26 (ak p)),(4,.rp 62 (encS s)),(8,.ptr (.s 8 0) 1 0 []),(9,.rp 103 (jK (bJ p s g))),(10,.clo 165 [.ptr (.s 8 0) 1 0 []]),(41,rowP 215 qo EP (bJ p s g).cases),(42,.int (bJ p s g).cases.length),(43,.int k)] [(.s 8 0,.cells ⟨23,1,λ_ => .own (.s 99 0) (fK p s (bJ p s g) k).length 0 (fK p s (bJ p s g) k).length none,0⟩),(.s 99 0,pJ 3 .i64 (fK p s (bJ p s g) k))]) (λk=>k<=(bJ p s g).cases.length) (λk=>(bJ p s g).cases.length - k) ?_ ?_);{refine ⟨0,?_,?_⟩;{exact abO _};refine eX cX ⟨obs rfl (hg:=q0 gX),⟨λ_ _=>rfl,.inr ⟨rfl,3,_,rfl,by decide⟩⟩,tt⟩};rintro k hk;have z:=yc p s (bJ p s g) k;refine sg rfl (sq ?_);refine cd rfl (λc=>?_) (λc=>?_);{(have b:k<(bJ p s g).cases.length:=by simp [-List.getD_eq_getElem?_getD]at c;omega);have w:=f.2.case (aA (bJ p s g) k) (by unfold aA;rw [aaV,aaT b];exact acn _);have j:=w.chan;refine sk (sq (bk (sq (rgs [] rfl ?_ ?_))));{simp [-List.getD_eq_getElem?_getD,ay,under];omega};refine rgs [CG.pure (.bool (jP p s (aA (bJ p s g) k).chan)),CG.pure (.bool (BN s (aA (bJ p s g) k).chan)),⟨true,[.s 8 0,.s 99 0],.tup [],Tm (kE (fK p s (bJ p s g) k) k (wY p s (aA (bJ p s g) k)))⟩] rfl ?_ ?_;{have n:=Nv p s (aA (bJ p s g) k).chan j v;have a0:=Ep s (aA (bJ p s g) k).chan (by unfold bg at j;omega);have d:=Tj (fK p s (bJ p s g) k) k (wY p s (aA (bJ p s g) k)) (by omega);(have e:(bif (bif (aA (bJ p s g) k).send then jP p s (aA (bJ p s g) k).chan else false)then true else (bif !(aA (bJ p s g) k).send then BN s (aA (bJ p s g) k).chan else false))=wY p s (aA (bJ p s g) k):=by simp only [fE,band];rfl);have x:jX [.s 8 0,.s 99 0] [.cells ⟨23,1,λ_ => .own (.s 99 0) (fK p s (bJ p s g) k).length 0 (fK p s (bJ p s g) k).length none,0⟩,pJ 3 .i64 (fK p s (bJ p s g) k)]:=⟨λ_ _=>rfl,λ_ _=>rfl,tt⟩;have m:jX (bs 2) (Tm (kE (fK p s (bJ p s g) k) k (wY p s (aA (bJ p s g) k)))):=⟨λ_ _=>rfl,λ_ _=>rfl,tt⟩;rw [<- e]at d m ⊢;exact au};refine rg [] rfl ⟨k+1,?_,?_,?_⟩;{exact b};{refine eX cX ⟨obs rfl,o9 rfl rfl rfl rfl rfl (λq n=>rfl),tt⟩};(try simp only []);first | omega | grind};(have b:k=(bJ p s g).cases.length:=by simp [-List.getD_eq_getElem?_getD]at c;omega);subst b;refine xt (sq (rgs [⟨true,[.s 8 0,.s 99 0],.tup [],Tm (iK p s g)⟩] rfl ?_ ?_));{have d:=Tj (fK p s (bJ p s g) (bJ p s g).cases.length) (bJ p s g).cases.length ((fK p s (bJ p s g) (bJ p s g).cases.length).length==0&&(bJ p s g).els != -1) (by omega);(have e:kE (fK p s (bJ p s g) (bJ p s g).cases.length) (bJ p s g).cases.length ((fK p s (bJ p s g) (bJ p s g).cases.length).length==0&&(bJ p s g).els != -1)=iK p s g:=by rw [iK,MC (by simp [a])]);(have y:((fK p s (bJ p s g) (bJ p s g).cases.length).length==0&&(bJ p s g).els != -1)=(bif (((fK p s (bJ p s g) (bJ p s g).cases.length).length:Int)==0)then (bJ p s g).els != -1 else false):=by rw [band];congr 1;rw [acC];simp);rw [e,y]at d;have x:jX [.s 8 0,.s 99 0] [.cells ⟨23,1,λ_ => .own (.s 99 0) (fK p s (bJ p s g) (bJ p s g).cases.length).length 0 (fK p s (bJ p s g) (bJ p s g).cases.length).length none,0⟩,pJ 3 .i64 (fK p s (bJ p s g) (bJ p s g).cases.length)]:=⟨λ_ _=>rfl,λ_ _=>rfl,tt⟩;have m:jX (bs 2) (Tm (iK p s g)):=⟨λ_ _=>rfl,λ_ _=>rfl,tt⟩;exact au};refine sg rfl (rX ?_);refine aG hT [(.s 99 0,(iK p s g).length)] (ts:=[(6,ints false (iK p s g))]) (l:=[ints false (iK p s g)]) ⟨⟨_,rfl,aa4 _⟩,tt⟩ ⟨⟨rfl,_,rfl,?_⟩,tt⟩ trivial rfl rfl rfl;exact gK rfl rfl rfl (λh=>by cases h) (by simp [dO,aT]) (λq n=>by rw [acW];exact ⟨rfl,vk.refl _⟩)
structure MH where
 kind:Int
 num:Int
 wr:Bool
 deriving DecidableEq
def sD (x:MH):AV:=bI 134 [.int x.kind,.int x.num,.bool x.wr]
def rV:MH:=⟨0,0,false⟩
structure FU where
 go:Int
 a:Int
 b:Int
 op:Int
 c:Int
 val:Int
 tag:Int
 ts:List MH
 n:Int
def YF (l:List MH):AV := .agg 135 6 (λi=>sD (l.getD i rV))
def gB (x:FU):AV:=bI 137 [.int x.go,.int x.a,.int x.b,.int x.op,.int x.c,.int x.val,.int x.tag,YF x.ts,.int x.n]
theorem qj (x:FU):fJ (gB x)=true:=zG (λi hi=>by
 match i,hi with
 | 0,_ | 1,_ | 2,_ | 3,_ | 4,_ | 5,_ | 6,_ | 8,_=>rfl
 | 7,_=>exact zG (λj _=>zG (λq a=>by match q,a with | 0,_ | 1,_ | 2,_=>rfl)))
def vN:FU:=⟨0,0,0,0,0,0,0,[],0⟩
def Di (f:Bool) (l:List FU):AV := .row 137 f l.length (λi=>gB (l.getD i vN))
section
variable {α:Type} [DecidableEq α] (d:α)
def dd (l:List α):Nat->List α
 | 0=>[]
 | k+1=>if 0<k/\l.getD k d=l.getD (k - 1) d then dd l k else dd l k++[l.getD k d]
theorem L8 (l:List α):∀ k,(dd d l k).length<=k
 | 0=>aa4 _
 | k+1=>by have:=L8 l k;simp only [dd];split;{omega};simp;omega
theorem YM (l:List α):∀ k,0<k->0<(dd d l k).length
 | 1,_=>by simp [dd]
 | k+2,_=>by have:=YM l (k+1) (by omega);rw [dd];split;{exact this};simp
theorem Ro (l:List α):∀ k,k<=l.length->(∀ j,0<j->j<k->l.getD j d≠l.getD (j - 1) d)->dd d l k=l.take k
 | 0,_,_=>rfl
 | k+1,hk,h=>by rw [dd,MC (λe=>h k e.1 (by omega) e.2),Ro l k (by omega) (λj a b=>h j a (by omega))];rw [adY];(have:k<l.length:=by omega);simp [this]
theorem TP {l:List α} {k:Nat} (a:0<k) (h:l.getD k d=l.getD (k - 1) d):dd d l (k+1)=dd d l k:=by rw [dd,aaW ⟨a,h⟩]
theorem aaB {l:List α} {k:Nat} (h:l.getD k d≠l.getD (k - 1) d):dd d l (k+1)=dd d l k++[l.getD k d]:=by rw [dd,MC (λe=>h e.2)]
theorem Ny {l:List α} (h:∀ j,0<j->j<l.length->l.getD j d≠l.getD (j - 1) d):dd d l l.length=l:=by
 rw [Ro d l l.length (aa4 _) h,adJ]
theorem YU {enc:α->AV} {l c:List α} {i:Nat} {z:AV} (ht:c.take i=dd d l l.length) (hi:i=(dd d l l.length).length) (hl:i<=l.length) (q:Nat) (g:q<l.length) :
 (bif Nat.ble i q&&Nat.blt q (i+(l.length - i))then z else enc (c.getD q d))=(bif Nat.blt q (dd d l l.length).length then enc ((dd d l l.length).getD q d)else z):=by
 by_cases h:i<=q
 ·have e:(Nat.ble i q&&Nat.blt q (i+(l.length - i)))=true:=by simp [h,adR];omega
  have a:Nat.blt q (dd d l l.length).length=false:=by
   cases b:Nat.blt q (dd d l l.length).length with
   | false=>rfl
   | true=>rw [adR]at b;omega
  rw [e,a,adq,ado]
 ·have e:(Nat.ble i q&&Nat.blt q (i+(l.length - i)))=false:=by simp;intro f;omega
  rw [e,ado,rF (by omega),<- ht];simp only [aaV,adL];rw [aaW (by omega)]
end
theorem F6 {i:Nat} (h:1<=i) (a:i<2 ^ 63):(IntKind.i64.wrap ((i:Int) - 1)).toNat=i - 1:=by rw [bK (by omega) (by omega)];omega
theorem SI {α:Type} {enc:α->AV} {z:AV} {ids:List Id} (h:∀ a,fP ids (enc a)=true) (b:fP ids z=true) (l:List α) {d:α} {q n:Nat}:fP ids (bif Nat.blt q n then enc (l.getD q d)else z)=true:=by
 cases Nat.blt q n
 ·exact b
 exact h _
open Go.Proofs Go.Sort
section
variable {α:Type} [Inhabited α]
def jd (a:α->α->Int) (l:List α):List α:=(pdq (Go.Proofs.ltOf a) l.toArray 0 l.length (Lib.bitLen l.length) true true).toList
theorem yP {a:α->α->Int} (b:SWO (Go.Proofs.ltOf a)) (l:List α):PermIn 0 l.length l.toArray (jd a l).toArray/\SortedIn (Go.Proofs.ltOf a) 0 l.length (jd a l).toArray:=by
 have h:=pdq_sorts (Go.Proofs.ltOf a) b l.toArray 0 l.length (Lib.bitLen l.length) true true (abO _) (by simp) (.inl rfl);exact ⟨by simpa [jd]using h.1,by simpa [jd]using h.2⟩
theorem tN {a:α->α->Int} (b:SWO (Go.Proofs.ltOf a)) (l:List α):(jd a l).length=l.length:=by
 have:=(yP b l).1.1;simpa using this
theorem Nk {a:α->α->Int} (b:SWO (Go.Proofs.ltOf a)) (l:List α):(jd a l).Perm l:=by
 have h:=(yP b l).1.2.2;have hl:=tN b l;simp only [List.extract_toArray,List.extract_eq_take_drop]at h;have c:(List.take l.length (jd a l)).Perm l:=by simpa using h
 rwa [List.take_of_length_le (by omega)]at c
theorem IU {a:α->α->Int} (c:SWO (Go.Proofs.ltOf a)) (l:List α):(jd a l).Pairwise λx y=>Go.Proofs.ltOf a y x=false:=by
 rw [List.pairwise_iff_getElem];intro i j hi d b;have hl:=tN c l;have:=(yP c l).2 i j (abO _) b (by omega);simpa [hi,d]using this
end
section
variable {P:Program} {T:Nat->TI} {N:Nat}
structure ab7 (T:Nat->TI) (N E k:Nat) {α:Type} (encA:α->AV) (encV:α->List Value):Prop where
 len:∀ x,(encV x).length=k
 one:∀ x,∀ v∈encV x,v.oneCell'=true
 rep:∀ I ρ x,Rep T N I ρ (encA x) (encV x)
 uni:∀ I ρ x cs,Rep T N I ρ (encA x) cs->cs=encV x
 fits:∀ x,fit T E (encA x)=true
 pack:∀ x,fC (encA x) (encV x) = .agg (encV x).toArray
 size:(T E).size=k
 pos:0<k
theorem P6 {A B:World} (h:Grown A B):∃ q b,B=grow (A.drewN q) b:=by
 refine ⟨B.drawn - A.drawn,B.heap.extract A.heap.size B.heap.size,?_⟩;obtain ⟨hp,j,dr,os,out⟩:=B;have c:=h.os;have d:=h.output;have e:=h.tape;simp only at c d e;simp only [grow,World.drewN,World.mk.injEq];refine ⟨?_,e.1,by omega,c,d⟩;apply Array.ext
 ·have:=h.size;simp only [Array.size_append,Array.size_extract]at *;omega
 intro i hi g;have:=h.size;rw [Array.getElem_append];split;{rename_i a;have:=h.same i a;simp only [Array.getElem?_eq_getElem hi,Array.getElem?_eq_getElem a,abI]at this;exact this};rename_i f;rw [Array.getElem_extract];congr 1;omega
theorem JD {α:Type} [Inhabited α] (enc:α->List Value) (k:Nat) (w:World) (n blk off:Nat) (d:Array α) (os:Array Obj) {r:Nat} (b:r<w.heap.size) :
 (sortWorldK enc k w blk off n d os).heap[r]? = if blk=r then (w.heap[r]?).map (onCells (putCells id off (flatK enc k d)))else w.heap[r]? := by
 unfold sortWorldK putRowK;have a:r<(putRow id (Sort.ahead w n) blk off (flatK enc k d)).heap.size:=by simpa [putRow,mapBlock,Sort.ahead]using b
 rw [heap_grow_old _ _ a];simp only [putRow,mapBlock,Sort.ahead,Array.getElem?_modify]
theorem YP {α:Type} [Inhabited α] {E k:Nat} {encA:α->AV} {encV:α->List Value} (hE:ab7 T N E k encA encV) {r:α->α->Int} {g:FuncId} (hc:∀ x y,AC P T N g [encA x,encA y] [] (.v (.int .i64 (r x y))) []) (blk off size:Nat) (w:World) (l:∀ (b o n:Nat),(T b).glb[o]? = some n->w.cell? ⟨b,o,none⟩=some (.int .u8 n)/\b≠blk):CmpLays P g #[] encV k r blk off size w:=by
 intro m os s a0 x y;have h:=(hc x y).2 (λb o=>((T b).glb[o]?).map λ(m:Nat)=>Value.int .u8 (m:Int)) gU (sortWorldK encV k w blk off m s os) [.agg (encV x).toArray,.agg (encV y).toArray] rfl (λi a v d c=>by
  match i with
  | 0=>simp at d c;subst d c;exact .one ⟨_,hE.rep _ _ x,(hE.pack x).symm⟩
  | 1=>simp at d c;subst d c;exact .one ⟨_,hE.rep _ _ y,(hE.pack y).symm⟩
  | i+2=>simp at d) ⟨λid B h=>(by cases id <;> simp [yI]at h),λid B h=>(by cases id <;> simp [yI]at h),λid p h=>(by cases h),λi j p q h=>(by cases h),λb o y h=>(by
   simp only [ac6]at h
   obtain ⟨n,u,rfl⟩:=h
   obtain ⟨t,z⟩:=l b o n u
   rw [nU (w:=w) ?_]
   ·exact t
   ·rw [JD encV k w m blk off s os (lN t),MC (λe=>z e.symm)]),λb o n h=>(by simp [h])⟩
 refine h.mono ?_;rintro e w' ⟨v,I',ρ',rfl,f,c,_⟩;exact ⟨by rw [c.v.1],P6 (Grown.of_ev f)⟩
theorem WA (hT:jf P T N) {a0:Go.Shelf.Ren} (L:SlLaysF0.n6 P a0) {α:Type} [Inhabited α] {E k:Nat} {encA:α->AV} {encV:α->List Value} (hE:ab7 T N E k encA encV)
 (aE:∀ w,(isAgg (a0.t 24)).run P w = .ok true w) (zE:∀ w,(Go.sizeOf (a0.t 24)).run P w = .ok k w) {d:α->α->Int} (hO:SWO (Go.Proofs.ltOf d)) {g:FuncId} (eg:∀ args w,(callFunc g args).run P w = .ok (.enter g args) w)
 (hc:∀ x y,AC P T N g [encA x,encA y] [] (.v (.int .i64 (d x y))) []) (a5:callable P (a0.f 6)) (l:List α) (b1:l.length<4611686018427387904) :
 AC P T N (a0.f 6) [.own (.b 0) l.length 0 l.length none,.clo g []] [dA E encA default l] (.tup []) [dA E encA default (jd d l)]:=by
 refine ⟨a5,λI ρ w vs d6 b6 hw=>?_⟩;obtain ⟨v,c0,rfl⟩:∃ v c0,vs=[v,c0]:=by
  match vs,d6 with
  | [v,c0],_=>exact ⟨v,c0,rfl⟩
 have hv:=(b6 0 _ v rfl rfl).rep1 (λ_=>by simp);have d5:=(b6 1 _ c0 rfl rfl).rep1 (λ_=>by simp)
 have d1:c0 = .func (.func g) #[] #[]:=by
  obtain ⟨cs,h1,h2⟩:=d5;cases h1 with
  | clo ys hl h =>
   have:ys = #[]:=aeh (by simpa using hl);subst this;exact h2
 subst d1;have z:=tN hO l
 have hm:yI [dA E encA default l] (.b 0)=some (dA E encA default l):=rfl;have b4:yI [dA E encA default (jd d l)]=uH (yI [dA E encA default l]) (.b 0) (dA E encA default (jd d l)):=by
  funext a;by_cases ha:a = .b 0
  ·subst ha;rw [eP];rfl
  ·rw [iH _ _ ha];cases a with
   | s _ _=>rfl
   | b j =>
    cases j with
    | zero=>exact absurd rfl ha
    | succ j=>rfl
 rcases Rep.own_inv hv with ⟨rfl,h0,_,_⟩ | ⟨q,hq,f5,hx⟩
 ·obtain rfl:l=[]:=aen h0;refine (AnyF.slices_SortFunc_none L none 0 (.func (.func g) #[] #[]) w).mono ?_;rintro e w' ⟨rfl,rfl⟩;refine ⟨_,I,ρ,rfl,Ev.refl _ _ _,.tup _ rfl (λi c hi=>by simp at hi),?_⟩;rw [show jd d ([]:List α)=[]from aen z];exact hw
 ·obtain ⟨q',cs,c1,c2,c3,c4,c5,c6,c7,c8,c9,e0⟩:=hw.cellsAt hm hq;rw [hq]at c1;cases c1;obtain ⟨c,rfl,g1,g2,g3,g4,g5,g6⟩:=hx c3;simp only [hE.size]at c7 c8;have a6:=hE.pos
  have p:∀ j,j<l.length*k->cs[j]? = some ((encV (l.getD (j / k) default))[j % k]!):=by
   intro j m;have d3:j / k<l.length:=(Nat.div_lt_iff_lt_mul a6).2 m
   obtain ⟨seg,e1,e2,e3,e4⟩:=c8 (j / k) d3;have b3:=hE.uni _ _ _ _ e1
   subst b3;have hm:=aeU j a6
   have:=e4 (j % k) hm;rw [show j / k*k+j % k=j by rw [aeo];exact aeJ j k]at this;rw [this];have u:j % k<(encV (l.getD (j / k) default)).length:=by rw [hE.len];exact hm
   rw [aaT u,getElem!_pos (encV (l.getD (j / k) default)) (j % k) u]
  have u:=hw.place_lt hq;have hH:HoldsK encV k w q.b 0 l.toArray:=by
   intro j m;have b0:j<l.length*k:=by simpa using m
   refine ⟨?_,?_⟩
   ·simp only [World.cell?,c5,acW];rw [p j b0,get_flatK _ _ _ _ (by simpa using b0)];simp [aaV,getElem!_def];cases l[j / k]? <;> rfl
   ·simp [World.frozen?,c5]
  have a1:=AnyQ.slices_SortFunc_eq L k aE zE encV hE.len hE.one d hO g #[] q.b 0 c l.toArray w eg (YP hE hc q.b 0 l.toArray.size w (λb o n a9=>⟨hw.imm _ _ _ (hw.gl b o n a9),λe=>by
   have h9:=c9 o (by rw [<- e,hw.gl b o n a9];simp);simp at h9⟩)) hH u (by simpa using b1)
  simp only [Nat.zero_mul];refine a1.mono ?_;rintro e w' ⟨rfl,n,os,rfl⟩;have d2:(pdq (Go.Proofs.ltOf d) l.toArray 0 l.toArray.size (Lib.bitLen l.toArray.size) true true)=(jd d l).toArray:=by simp [jd]
  rw [d2];have a4:=λr hr=>JD encV k w n q.b 0 (jd d l).toArray os (r:=r) hr
  have a2:∀ j,(putCells id 0 (flatK encV k (jd d l).toArray) cs)[j]? = if j<l.length*k then some ((encV ((jd d l).getD (j / k) default))[j % k]!)else cs[j]? := by
   intro j;simp only [putCells,Array.getElem?_mapIdx,acW,abO,true_and,size_flatK,aea,z,Nat.sub_zero];split
   ·rename_i m;rw [p j m];simp only [adU,abI,id];rw [get_flatK _ _ _ _ (by simpa [z]using m)];simp [aaV,getElem!_def];cases (jd d l)[j / k]? <;> rfl
   ·cases cs[j]? <;> rfl
  have b5:=Jj (len:=l.length) (i:=0) (h:=λj=>encA ((jd d l).getD j default)) (cs':=putCells id 0 (flatK encV k (jd d l).toArray) cs) (w':=sortWorldK encV k w q.b 0 n (jd d l).toArray os) hT hw hm hq (by simp) (abO _) c5 (by simp [putCells])
   (by rw [a4 _ u,aaW rfl,c5];rfl) (λb hb d4=>by rw [a4 _ hb,MC (Ne.symm d4)]) (by simp [sortWorldK,putRowK,putRow,mapBlock,Sort.ahead,grow]) rfl rfl ⟨rfl,by simp [sortWorldK,putRowK,putRow,mapBlock,Sort.ahead,grow]⟩
   (
    λj m=>⟨encV ((jd d l).getD j default),hE.rep _ _ _,hE.fits _,by rw [hE.len];exact hE.size.symm,λo ho=>by
    have a7:o<k:=by rw [<- hE.size];exact ho
    have a8:(T E).size=k:=hE.size;show (putCells id 0 (flatK encV k (jd d l).toArray) cs)[(0+j)*(T E).size+o]? = _
    rw [a8,acW];have b2:j*k+o<l.length*k:=by
     have:=abZ k (show j+1<=l.length from m);rw [adD,Nat.one_mul]at this;omega
    rw [a2,aaW b2];have e1:(j*k+o) / k=j:=by rw [aeo,Nat.mul_add_div a6,Nat.div_eq_of_lt a7,adV]
    have e2:(j*k+o) % k=o:=by rw [aeo,Nat.mul_add_mod,aes a7]
    rw [e1,e2];have a3:o<(encV ((jd d l).getD j default)).length:=by rw [hE.len];exact a7
    rw [aaT a3,getElem!_pos (encV ((jd d l).getD j default)) o a3]⟩)
   (
    λj m=>by
    have a8:(T E).size=k:=hE.size;change j<0*(T E).size\/(0+l.length)*(T E).size<=j at m;rw [a8,Nat.zero_mul,acW]at m;rw [a2,MC (by omega)])
  refine ⟨_,I,ρ,rfl,b5.1,.tup _ rfl (λi c hi=>by simp at hi),?_⟩;rw [b4];have e2:(Ob.cells { ty:=E,n:=l.length,get:=λj=>bif Nat.ble 0 j&&Nat.blt j (0+l.length)then encA ((jd d l).getD (j - 0) default)else encA (l.getD j default),fz:=0}:Ob)=dA E encA default (jd d l):=by
   simp only [dA,Ob.cells.injEq,zQ.mk.injEq,z,true_and,and_true];funext j;by_cases m:j<l.length
   ·have e:(Nat.ble 0 j&&Nat.blt j (0+l.length))=true:=by rw [abh];exact ⟨by simp,by rw [adR];omega⟩
    rw [e];rfl
   ·have e:(Nat.ble 0 j&&Nat.blt j (0+l.length))=false:=by
     cases hb:(Nat.ble 0 j&&Nat.blt j (0+l.length))with
     | false=>rfl
     | true=>rw [abh,adR]at hb;omega
    rw [e];simp [aaV,z,show l.length<=j by omega]
  refine Eq.mp ?_ b5.2;exact acY (λo=>dW T N I ρ (uH (yI [dA E encA default l]) (.b 0) o) _) e2
end
end Go.Ab
