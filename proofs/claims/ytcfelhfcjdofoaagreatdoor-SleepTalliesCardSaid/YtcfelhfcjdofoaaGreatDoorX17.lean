/- Part 18 of a proof of a statement about the given program: an abstract machine over the model, proved sound, and contracts of the functions that the statement reaches; the last part proves the statement, for every input, with no condition. -/
import Derived.Test.YtcfelhfcjdofoaaGreatDoorX15
import Derived.Test.YtcfelhfcjdofoaaGreatDoorX16
import Derived.Test.YtcfelhfcjdofoaaGreatDoorX13
import Derived.Shelf.SlSortCmp.NoneTotal
set_option autoImplicit false
set_option linter.unusedSimpArgs false
set_option linter.unusedVariables false
set_option maxHeartbeats 4000000
set_option maxRecDepth 20000
namespace Go.Ab
open Go.Proofs
def bA (k:IntKind) (x y:Int):Int:=k.wrap ((BitVec.ofInt k.bits x &&& BitVec.ofInt k.bits y).toNat:Nat)
def bO (k:IntKind) (x y:Int):Int:=k.wrap ((BitVec.ofInt k.bits x ||| BitVec.ofInt k.bits y).toNat:Nat)
def bX (k:IntKind) (x y:Int):Int:=k.wrap ((BitVec.ofInt k.bits x ^^^ BitVec.ofInt k.bits y).toNat:Nat)
def bN (k:IntKind) (x y:Int):Int:=k.wrap ((BitVec.ofInt k.bits x &&& ~~~BitVec.ofInt k.bits y).toNat:Nat)
abbrev wI (x:Int):Int:=IntKind.i64.wrap x
abbrev wU (x:Int):Int:=IntKind.u64.wrap x
theorem tJ (x:Int):0≤wU x∧wU x<18446744073709551616:=by rw [wU,IntKind.wrap_u64];omega
def zk (b:Bool):Int:=if b then 1 else 0
theorem tC (b:Bool):AC Tryz.prog T aV 290 [.bool b] [] (.int (zk b)) []:=by
 refine aA hT Tryz.func290 rfl rfl (Nat.le_of_ble_eq_true rfl) ?_;refine sg rfl ?_;refine sq (sq (rg [] rfl ?_));refine cd rfl (fun h1=>?_) (fun h1=>?_)
 ·refine sg rfl ?_;refine WP.ret ?_;change Fin ..;refine dQ hT (by rfl) ?_;simp_all [zk]
 ·refine sk (sq (rg [] rfl ?_));refine WP.ret ?_;change Fin ..;refine dQ hT (by rfl) ?_;simp_all [zk]
def sD (op:Int):Int:=if 1≤op∧op≤15 then 1 else if 16≤op∧op≤36 then 2 else 0
theorem EY (op:Int):AC Tryz.prog T aV 268 [.int op] [] (.int (sD op)) []:=by
 refine aA hT Tryz.func268 rfl rfl (Nat.le_of_ble_eq_true rfl) ?_;refine sg rfl ?_;refine sq (bk (sq (rg [] rfl ?_)));refine cd rfl (fun h1=>?_) (fun h1=>?_)
 ·simp only [band]at h1;simp at h1;refine sg rfl ?_;exact WP.ret (dQ hT (by rfl) (by rw [sD,if_pos h1]))
 ·simp only [band]at h1;simp at h1;refine sg rfl ?_;refine cd rfl (fun h3=>?_) (fun h3=>?_)
  ·simp only [band]at h3;simp at h3;refine sg rfl ?_;exact WP.ret (dQ hT (by rfl) (by rw [sD,if_neg (by omega),if_pos (by omega)]))
  ·simp only [band]at h3;simp at h3;refine sk (sq (rg [] rfl ?_));exact WP.ret (dQ hT (by rfl) (by rw [sD,if_neg (by omega),if_neg (by omega)]))
def Ci (x:Int):Int:=wU (bA .u64 (x.fdiv 2) 6148914691236517205+bA .u64 x 6148914691236517205)
def FT (x:Int):Int:=wU (bA .u64 (x.fdiv 4) 3689348814741910323+bA .u64 x 3689348814741910323)
def Io (x:Int):Int:=bA .u64 (wU (x.fdiv 16+x)) 1085102592571150095
def yw (k x:Int):Int:=wU (x+x.fdiv k)
def Oj (x:Int):Int:=bA .i64 (wI (yw 4294967296 (yw 65536 (yw 256 (Io (FT (Ci x))))))) 127
theorem Oi (x:Int):AC Tryz.prog T aV 286 [.v (.int .u64 x)] [] (.int (Oj x)) []:=by
 refine aA hT Tryz.func286 rfl rfl (Nat.le_of_ble_eq_true rfl) ?_;refine sg rfl ?_;refine sg rfl ?_;refine sq ?_;refine WP.ent (st':=aP [(0,.v (.int .u64 (Ci x)))] []) ?_ ?_
 ·refine em [] trivial ⟨cq,tt⟩ trivial
 refine rg [] rfl ?_;refine sq ?_;refine WP.ent (st':=aP [(0,.v (.int .u64 (FT (Ci x))))] []) ?_ ?_
 ·refine em [] trivial ⟨cq,tt⟩ trivial
 refine rg [] rfl ?_;refine sq ?_;refine WP.ent (st':=aP [(0,.v (.int .u64 (Io (FT (Ci x)))))] []) ?_ ?_
 ·refine em [] trivial ⟨cq,tt⟩ trivial
 refine rg [] rfl ?_;refine sq ?_;refine WP.ent (st':=aP [(0,.v (.int .u64 (yw 256 (Io (FT (Ci x))))))] []) ?_ ?_
 ·refine em [] trivial ⟨cq,tt⟩ trivial
 refine rg [] rfl ?_;refine sq ?_;refine WP.ent (st':=aP [(0,.v (.int .u64 (yw 65536 (yw 256 (Io (FT (Ci x)))))))] []) ?_ ?_
 ·refine em [] trivial ⟨cq,tt⟩ trivial
 refine rg [] rfl ?_;refine sq ?_;refine WP.ent (st':=aP [(0,.v (.int .u64 (yw 4294967296 (yw 65536 (yw 256 (Io (FT (Ci x))))))))] []) ?_ ?_
 ·refine em [] trivial ⟨cq,tt⟩ trivial
 refine rg [] rfl ?_;exact WP.ret (dQ hT (by rfl) rfl)
theorem OE (x:Int) (h0:0≤x) (h1:x<18446744073709551616):AC Tryz.prog T aV 287 [.v (.int .u64 x)] [] (.int (64 - (Go.Lib.bitLen x.toNat:Int))) [] :=
 AC.of_calls (xs:=[.int .u64 x]) ⟨_,Tryz.func287,rfl,rfl⟩ (fun I ρ=>cZ rfl) fun w _=>Any.bits_LeadingZeros64 Tryz.layLz x w h0 (by omega)
theorem J6 (x:Int) (h0:0≤x) (h1:x<18446744073709551616):AC Tryz.prog T aV 288 [.v (.int .u64 x)] [] (.int (Go.Lib.ctz 64 x.toNat:Nat)) []:=by
 obtain ⟨n,rfl⟩:=Int.eq_ofNat_of_zero_le h0;exact AC.of_calls (xs:=[.int .u64 n]) ⟨_,Tryz.func288,rfl,rfl⟩ (fun I ρ=>cZ rfl) fun w hw=>Any7.bits_TrailingZeros64 Tryz.layTz n (by omega) w fun _ j hj=>hw 0 j _ (by
  show deB[j]? = _;have e:deB=Go.Lib.deBruijn64tab:=rfl
  rw [e,List.getElem?_eq_getElem hj,List.getD_eq_getElem?_getD,List.getElem?_eq_getElem hj];rfl)
theorem Qq (x y:Nat) (hx:x<18446744073709551616) (hy:y<18446744073709551616):AC Tryz.prog T aV 299 [.v (.int .u64 x),.v (.int .u64 y)] [] (.tup [.v (.int .u64 ((x*y / 18446744073709551616:Nat):Int)),.v (.int .u64 ((x*y % 18446744073709551616:Nat):Int))]) [] :=
 AC.of_calls (xs:=[.int .u64 x,.int .u64 y]) ⟨_,Tryz.func299,rfl,rfl⟩ (fun I ρ => .tup _ rfl fun i c h=>match i,h with | 0,h=>by cases h;exact wQ rfl | 1,h=>by cases h;exact wQ rfl) fun w _=>Any.bits_Mul64 Tryz.layMul x y hx hy w
def EM (a:Int):Nat→Int
 | 0=>0
 | k+1=>bO .u64 (EM a k) (wU (bA .u64 ((wU a).fdiv (2 ^ min k 64)) 1*2 ^ (min (63 - k) 64)))
def OU (a:Int):Int:=wI (EM a 64)
theorem OT (a:Int):AC Tryz.prog T aV 289 [.int a] [] (.int (OU a)) []:=by
 refine aA hT Tryz.func289 rfl rfl (Nat.le_of_ble_eq_true rfl) ?_;refine sg rfl ?_;refine sg rfl ?_;refine sq (sq (rg [] rfl ?_));refine bk ?_;refine WP.loop (α:=Nat) (fun k=>aP [(0,.int a),(3,.v (.int .u64 (EM a k))),(5,.int k)] []) (fun k=>k≤64) (fun k=>64 - k) ?_ ?_
 ·refine ⟨0,?_,?_⟩
  ·exact Nat.zero_le _
  ·refine em [] trivial ⟨cq,cq,cq,tt⟩ trivial
 ·rintro k hk;refine sg rfl ?_;refine sq ?_;refine cd rfl (fun h3=>?_) (fun h3=>?_)
  ·have hkl:k<64:=by simp at h3;omega
   have e63:IntKind.i64.wrap (63 - (k:Int))=((63 - k:Nat):Int):=by rw [cu (by omega) (by omega)];omega
   refine sk (sq (bk (sq (rg [] rfl ?_))));refine rgs [] rfl ?_ ?_
   ·simp only [aj,under]
    repeat' refine And.intro ?_ ?_
    all_goals (first | trivial | (rw [e63];omega) | omega)
   refine rg [] rfl ?_;refine ⟨k+1,?_,?_,?_⟩
   ·exact hkl
   ·refine em [] trivial ⟨cq,⟨rfl,_,rfl,ah (by rw [EM,bO,bA];simp only [e63,Int.toNat_natCast];rfl)⟩,cq,tt⟩ trivial
   ·(try simp only []);first | omega | grind
  ·have hkl:k=64:=by simp at h3;omega
   subst hkl;refine xt (sq (rg [] rfl ?_));exact WP.ret (dQ hT (by rfl) rfl)
def Qb (x r:Int):Int:=bO .u64 (wU (x*2 ^ (min (bA .u64 (wU r) 63).toNat 64))) (x.fdiv (2 ^ (min (wU (64 - bA .u64 (wU r) 63)).toNat 64)))
theorem Ry (x y:Int):0≤bA .u64 x y∧bA .u64 x y<18446744073709551616:=tJ _
theorem Qa (x r:Int):AC Tryz.prog T aV 291 [.v (.int .u64 x),.int r] [] (.v (.int .u64 (Qb x r))) []:=by
 refine aA hT Tryz.func291 rfl rfl (Nat.le_of_ble_eq_true rfl) ?_;refine sg rfl ?_;refine sg rfl ?_;refine sq (rgs [] rfl ?_ ?_)
 ·have h1:=Ry (wU r) 63;have h2:=tJ (64 - bA .u64 (wU r) 63)
  simp only [aj,under];exact ⟨h1.1,h2.1⟩
 exact WP.ret (aH hT [] (ts:=[(4,.v (.int .u64 (Qb x r)))]) (l:=[.v (.int .u64 (Qb x r))]) trivial ⟨⟨rfl,_,rfl,ah rfl⟩,tt⟩ trivial rfl rfl rfl)
def OL (a b:Int):Int:=(((wU a).toNat*(wU b).toNat / 18446744073709551616:Nat):Int)
def Gh (a b:Int):Int:=if a<0 then wU (OL a b - wU b)else OL a b
def pF (a b:Int):Int:=if b<0 then wU (Gh a b - wU a)else Gh a b
def II (a b:Int):Int:=(((wU a).toNat*(wU b).toNat % 18446744073709551616:Nat):Int)
theorem NK (a b:Int):AC Tryz.prog T aV 292 [.int a,.int b] [] (.tup [.int (wI (pF a b)),.v (.int .u64 (II a b))]) []:=by
 refine aA hT Tryz.func292 rfl rfl (Nat.le_of_ble_eq_true rfl) ?_;refine sg rfl ?_;refine sq (rgs [CG.pure (.tup [.v (.int .u64 (OL a b)),.v (.int .u64 (II a b))])] rfl ?_ ?_)
 ·have h1:=tJ a;have h2:=tJ b
  have hq:=Qq (wU a).toNat (wU b).toNat (by omega) (by omega);rw [Int.toNat_of_nonneg h1.1,Int.toNat_of_nonneg h2.1]at hq;exact au
 refine sq (sq (rg [] rfl ?_));refine cd rfl (fun h2=>?_) (fun h2=>?_)
 ·refine rg [] rfl ?_;refine sq (sq (rg [] rfl ?_));refine cd rfl (fun h4=>?_) (fun h4=>?_)
  ·refine rg [] rfl ?_;refine sg rfl ?_;refine WP.ret ?_;change Fin ..;exact aH hT [] (ts:=[(4,.int (wI (pF a b))),(5,.v (.int .u64 (II a b)))]) (l:=[.int (wI (pF a b)),.v (.int .u64 (II a b))]) trivial ⟨⟨rfl,_,rfl,ah (by simp at h2 h4;simp only [pF,Gh];(repeat' split) <;> first | rfl | omega)⟩,⟨rfl,_,rfl,ah rfl⟩,tt⟩ trivial rfl rfl rfl
  ·refine sk (sq (rg [] rfl ?_));refine WP.ret ?_;change Fin ..;exact aH hT [] (ts:=[(4,.int (wI (pF a b))),(5,.v (.int .u64 (II a b)))]) (l:=[.int (wI (pF a b)),.v (.int .u64 (II a b))]) trivial ⟨⟨rfl,_,rfl,ah (by simp at h2 h4;simp only [pF,Gh];(repeat' split) <;> first | rfl | omega)⟩,⟨rfl,_,rfl,ah rfl⟩,tt⟩ trivial rfl rfl rfl
 ·refine sk (sq (sq (rg [] rfl ?_)));refine cd rfl (fun h4=>?_) (fun h4=>?_)
  ·refine rg [] rfl ?_;refine sg rfl ?_;refine WP.ret ?_;change Fin ..;exact aH hT [] (ts:=[(4,.int (wI (pF a b))),(5,.v (.int .u64 (II a b)))]) (l:=[.int (wI (pF a b)),.v (.int .u64 (II a b))]) trivial ⟨⟨rfl,_,rfl,ah (by simp at h2 h4;simp only [pF,Gh];(repeat' split) <;> first | rfl | omega)⟩,⟨rfl,_,rfl,ah rfl⟩,tt⟩ trivial rfl rfl rfl
  ·refine sk (sq (rg [] rfl ?_));refine WP.ret ?_;change Fin ..;exact aH hT [] (ts:=[(4,.int (wI (pF a b))),(5,.v (.int .u64 (II a b)))]) (l:=[.int (wI (pF a b)),.v (.int .u64 (II a b))]) trivial ⟨⟨rfl,_,rfl,ah (by simp at h2 h4;simp only [pF,Gh];(repeat' split) <;> first | rfl | omega)⟩,⟨rfl,_,rfl,ah rfl⟩,tt⟩ trivial rfl rfl rfl
def yx (op a:Int):Int:=if op=3 then (if 0≤a then a else wI (0 - a))else if op=1 then wI (0 - a)else if op=2 then bX .i64 (-1) a else if op=4 then Oj (wU a)else
 if op=5 then 64 - (Go.Lib.bitLen (wU a).toNat:Int)else if op=6 then (Go.Lib.ctz 64 (wU a).toNat:Nat)else if op=7 then OU a else if op=8 then zk (a != 0)else if op=9 then zk (a==0)else
 if op=10 then wI (IntKind.i8.wrap a)else if op=11 then wI (IntKind.i16.wrap a)else if op=12 then wI (IntKind.i32.wrap a)else if op=13 then wI (IntKind.u8.wrap a)else if op=14 then wI (IntKind.u16.wrap a)else wI (IntKind.u32.wrap a)
theorem Qp (op a:Int):AC Tryz.prog T aV 269 [.int op,.int a] [] (.int (yx op a)) []:=by
 refine aA hT Tryz.func269 rfl rfl (Nat.le_of_ble_eq_true rfl) ?_;refine sg rfl ?_;refine sq (sq (rg [] rfl ?_));refine bk (sq (bk (sq (bk (sq (bk (sq (bk (sq (bk (sq (bk (sq (bk (sq (bk (sq (bk (sq (bk (sq (bk (sq (bk (sq (bk (sq (bk (sq (sq (sq (rg [] rfl ?_))))))))))))))))))))))))))))))));refine cd rfl (fun h2=>?_) (fun h2=>?_)
 ·refine xt (sq (rg [] rfl ?_));refine cd rfl (fun h16=>?_) (fun h16=>?_)
  ·refine sg rfl ?_;refine WP.ret ?_;change Fin ..;refine dQ hT (by rfl) ?_;simp only [beq_iff_eq,beq_eq_false_iff_ne,decide_eq_true_eq,decide_eq_false_iff_not]at *
   unfold yx;simp_all
   all_goals (first | rfl | (intro;omega))
  ·refine sk (sq (sq (rg [] rfl ?_)));refine WP.ret ?_;change Fin ..;refine dQ hT (by rfl) ?_;simp only [beq_iff_eq,beq_eq_false_iff_ne,decide_eq_true_eq,decide_eq_false_iff_not]at *
   unfold yx;simp_all
   all_goals (first | rfl | (intro;omega))
 ·refine sk (sq (sq (rg [] rfl ?_)));refine cd rfl (fun h3=>?_) (fun h3=>?_)
  ·refine xt (sq (sq (rg [] rfl ?_)));refine WP.ret ?_;change Fin ..;refine dQ hT (by rfl) ?_;simp only [beq_iff_eq,beq_eq_false_iff_ne,decide_eq_true_eq,decide_eq_false_iff_not]at *
   unfold yx;simp_all
   all_goals (first | rfl | (intro;omega))
  ·refine sk (sq (sq (rg [] rfl ?_)));refine cd rfl (fun h4=>?_) (fun h4=>?_)
   ·refine xt (sq (sq (rg [] rfl ?_)));refine WP.ret ?_;change Fin ..;refine dQ hT (by rfl) ?_;simp only [beq_iff_eq,beq_eq_false_iff_ne,decide_eq_true_eq,decide_eq_false_iff_not]at *
    unfold yx;simp_all
    all_goals (first | rfl | (intro;omega))
   ·refine sk (sq (sq (rg [] rfl ?_)));refine cd rfl (fun h5=>?_) (fun h5=>?_)
    ·refine xt (sq (sq (rgs [CG.pure (.int (Oj (wU a)))] rfl ?_ ?_)))
     ·have hq:=Oi (wU a);exact au
     refine WP.ret ?_;change Fin ..;refine dQ hT (by rfl) ?_;simp only [beq_iff_eq,beq_eq_false_iff_ne,decide_eq_true_eq,decide_eq_false_iff_not]at *
     unfold yx;simp_all
     all_goals (first | rfl | (intro;omega))
    ·refine sk (sq (sq (rg [] rfl ?_)));refine cd rfl (fun h6=>?_) (fun h6=>?_)
     ·refine xt (sq (sq (rgs [CG.pure (.int (64 - (Go.Lib.bitLen (wU a).toNat:Int)))] rfl ?_ ?_)))
      ·have hq:=OE (wU a) (tJ a).1 (tJ a).2;exact au
      refine WP.ret ?_;change Fin ..;refine dQ hT (by rfl) ?_;simp only [beq_iff_eq,beq_eq_false_iff_ne,decide_eq_true_eq,decide_eq_false_iff_not]at *
      unfold yx;simp_all
      all_goals (first | rfl | (intro;omega))
     ·refine sk (sq (sq (rg [] rfl ?_)));refine cd rfl (fun h7=>?_) (fun h7=>?_)
      ·refine xt (sq (sq (rgs [CG.pure (.int (Go.Lib.ctz 64 (wU a).toNat:Nat))] rfl ?_ ?_)))
       ·have hq:=J6 (wU a) (tJ a).1 (tJ a).2;exact au
       refine WP.ret ?_;change Fin ..;refine dQ hT (by rfl) ?_;simp only [beq_iff_eq,beq_eq_false_iff_ne,decide_eq_true_eq,decide_eq_false_iff_not]at *
       unfold yx;simp_all
       all_goals (first | rfl | (intro;omega))
      ·refine sk (sq (sq (rg [] rfl ?_)));refine cd rfl (fun h8=>?_) (fun h8=>?_)
       ·refine xt (sq (sq (rgs [CG.pure (.int (OU a))] rfl ?_ ?_)))
        ·have hq:=OT a;exact au
        refine WP.ret ?_;change Fin ..;refine dQ hT (by rfl) ?_;simp only [beq_iff_eq,beq_eq_false_iff_ne,decide_eq_true_eq,decide_eq_false_iff_not]at *
        unfold yx;simp_all
        all_goals (first | rfl | (intro;omega))
       ·refine sk (sq (sq (rg [] rfl ?_)));refine cd rfl (fun h9=>?_) (fun h9=>?_)
        ·refine xt (sq (sq (rgs [CG.pure (.int (zk (a != 0)))] rfl ?_ ?_)))
         ·have hq:=tC (a != 0);exact au
         refine WP.ret ?_;change Fin ..;refine dQ hT (by rfl) ?_;simp only [beq_iff_eq,beq_eq_false_iff_ne,decide_eq_true_eq,decide_eq_false_iff_not]at *
         unfold yx;simp_all
         all_goals (first | rfl | (intro;omega))
        ·refine sk (sq (sq (rg [] rfl ?_)));refine cd rfl (fun h10=>?_) (fun h10=>?_)
         ·refine xt (sq (sq (rgs [CG.pure (.int (zk (a==0)))] rfl ?_ ?_)))
          ·have hq:=tC (a==0);exact au
          refine WP.ret ?_;change Fin ..;refine dQ hT (by rfl) ?_;simp only [beq_iff_eq,beq_eq_false_iff_ne,decide_eq_true_eq,decide_eq_false_iff_not]at *
          unfold yx;simp_all
          all_goals (first | rfl | (intro;omega))
         ·refine sk (sq (sq (rg [] rfl ?_)));refine cd rfl (fun h11=>?_) (fun h11=>?_)
          ·refine xt (sq (sq (rg [] rfl ?_)));refine WP.ret ?_;change Fin ..;refine dQ hT (by rfl) ?_;simp only [beq_iff_eq,beq_eq_false_iff_ne,decide_eq_true_eq,decide_eq_false_iff_not]at *
           unfold yx;simp_all
           all_goals (first | rfl | (intro;omega))
          ·refine sk (sq (sq (rg [] rfl ?_)));refine cd rfl (fun h12=>?_) (fun h12=>?_)
           ·refine xt (sq (sq (rg [] rfl ?_)));refine WP.ret ?_;change Fin ..;refine dQ hT (by rfl) ?_;simp only [beq_iff_eq,beq_eq_false_iff_ne,decide_eq_true_eq,decide_eq_false_iff_not]at *
            unfold yx;simp_all
            all_goals (first | rfl | (intro;omega))
           ·refine sk (sq (sq (rg [] rfl ?_)));refine cd rfl (fun h13=>?_) (fun h13=>?_)
            ·refine xt (sq (sq (rg [] rfl ?_)));refine WP.ret ?_;change Fin ..;refine dQ hT (by rfl) ?_;simp only [beq_iff_eq,beq_eq_false_iff_ne,decide_eq_true_eq,decide_eq_false_iff_not]at *
             unfold yx;simp_all
             all_goals (first | rfl | (intro;omega))
            ·refine sk (sq (sq (rg [] rfl ?_)));refine cd rfl (fun h14=>?_) (fun h14=>?_)
             ·refine xt (sq (sq (rg [] rfl ?_)));refine WP.ret ?_;change Fin ..;refine dQ hT (by rfl) ?_;simp only [beq_iff_eq,beq_eq_false_iff_ne,decide_eq_true_eq,decide_eq_false_iff_not]at *
              unfold yx;simp_all
              all_goals (first | rfl | (intro;omega))
             ·refine sk (sq (rg [] rfl ?_));refine cd rfl (fun h15=>?_) (fun h15=>?_)
              ·refine xt (sq (sq (rg [] rfl ?_)));refine WP.ret ?_;change Fin ..;refine dQ hT (by rfl) ?_;simp only [beq_iff_eq,beq_eq_false_iff_ne,decide_eq_true_eq,decide_eq_false_iff_not]at *
               unfold yx;simp_all
               all_goals (first | rfl | (intro;omega))
              ·refine sk (xt (sq (rg [] rfl ?_)));refine WP.ret ?_;change Fin ..;refine dQ hT (by rfl) ?_;simp only [beq_iff_eq,beq_eq_false_iff_ne,decide_eq_true_eq,decide_eq_false_iff_not]at *
               unfold yx;simp_all
               all_goals (first | rfl | (intro;omega))
def JY (op a b:Int):Int×Int:=if b=0 then (0,20)else if op=19∧b = -1 then (wI (0 - a),0)else if op=19 then (wI (a.tdiv b),0)else if b = -1 then (0,0)else (a.tmod b,0)
theorem qA {nt:Nat} {t:Nat→Option (D×AV)} {m:Id→Option Ob} {j k:Nat} {a b c d:Int} (h1:t j=some (.always,.int a)) (h2:t k=some (.always,.int b)) (hjk:Nat.beq k j=false) (e:(a,b)=(c,d)):Fin T aV nt 0 [.tmp j,.tmp k] (.tup [.int c,.int d]) [] ⟨t,m⟩:=by
 cases e;refine aH hT [] (ts:=[(j,.int a),(k,.int b)]) (l:=[.int a,.int b]) trivial ⟨⟨rfl,_,h1,ah rfl⟩,⟨rfl,_,h2,ah rfl⟩,tt⟩ trivial rfl ?_ rfl;have hj:Nat.beq j j=true:=by simp
 have hk:Nat.beq k k=true:=by simp
 simp only [BG,aP,kF,hjk,hj,hk];rfl
theorem Gn (op a b:Int):AC Tryz.prog T aV 270 [.int op,.int a,.int b] [] (.tup [.int (JY op a b).1,.int (JY op a b).2]) []:=by
 refine aA hT Tryz.func270 rfl rfl (Nat.le_of_ble_eq_true rfl) ?_;refine sg rfl ?_;refine sq (bk (sq (rg [] rfl ?_)));refine cd rfl (fun h1=>?_) (fun h1=>?_)
 ·refine sg rfl ?_;refine WP.ret ?_;change Fin ..;refine qA (by rfl) (by rfl) rfl ?_;simp only [band,beq_iff_eq,beq_eq_false_iff_ne]at *
  unfold JY;simp_all
 ·refine sg rfl ?_;refine cd rfl (fun h3=>?_) (fun h3=>?_)
  ·refine sg rfl ?_;refine WP.ret ?_;change Fin ..;refine qA (by rfl) (by rfl) rfl ?_;simp only [band,beq_iff_eq,beq_eq_false_iff_ne]at *
   unfold JY;simp_all
  ·refine sg rfl ?_;refine cd rfl (fun h5=>?_) (fun h5=>?_)
   ·refine sq (rgs [] rfl ?_ ?_)
    ·simp [aj,under]at *
     assumption
    refine WP.ret ?_;change Fin ..;refine qA (by rfl) (by rfl) rfl ?_;simp only [band,beq_iff_eq,beq_eq_false_iff_ne]at *
    unfold JY;simp_all
   ·refine sg rfl ?_;refine cd rfl (fun h7=>?_) (fun h7=>?_)
    ·refine sg rfl ?_;refine WP.ret ?_;change Fin ..;refine qA (by rfl) (by rfl) rfl ?_;simp only [band,beq_iff_eq,beq_eq_false_iff_ne]at *
     unfold JY;simp_all
    ·refine sk (sq (rgs [] rfl ?_ ?_))
     ·simp [aj,under]at *
      assumption
     refine WP.ret ?_;change Fin ..;refine qA (by rfl) (by rfl) rfl ?_;simp only [band,beq_iff_eq,beq_eq_false_iff_ne]at *
     unfold JY;simp_all
def shF (op a b:Int):Int×Int:=if b<0 then (0,21)else if op=25 then (wI (a*2 ^ (min (wU b).toNat 64)),0)else if op=26 then (a.fdiv (2 ^ (min (wU b).toNat 64)),0)else (wI ((wU a).fdiv (2 ^ (min (wU b).toNat 64))),0)
theorem Fq (op a b:Int):AC Tryz.prog T aV 271 [.int op,.int a,.int b] [] (.tup [.int (shF op a b).1,.int (shF op a b).2]) []:=by
 refine aA hT Tryz.func271 rfl rfl (Nat.le_of_ble_eq_true rfl) ?_;refine sg rfl ?_;refine sq (bk (sq (rg [] rfl ?_)));refine cd rfl (fun h1=>?_) (fun h1=>?_)
 ·refine sg rfl ?_;refine WP.ret ?_;change Fin ..;refine qA (by rfl) (by rfl) rfl ?_;simp only [band,beq_iff_eq,beq_eq_false_iff_ne,decide_eq_true_eq,decide_eq_false_iff_not]at *
  unfold shF
  (repeat' split) <;> first | rfl | omega
 ·refine sg rfl ?_;refine cd rfl (fun h3=>?_) (fun h3=>?_)
  ·refine sq (rgs [] rfl ?_ ?_)
   ·exact (tJ b).1
   refine WP.ret ?_;change Fin ..;refine qA (by rfl) (by rfl) rfl ?_;simp only [band,beq_iff_eq,beq_eq_false_iff_ne,decide_eq_true_eq,decide_eq_false_iff_not]at *
   unfold shF
   (repeat' split) <;> first | rfl | omega
  ·refine sg rfl ?_;refine cd rfl (fun h5=>?_) (fun h5=>?_)
   ·refine sq (rgs [] rfl ?_ ?_)
    ·exact (tJ b).1
    refine WP.ret ?_;change Fin ..;refine qA (by rfl) (by rfl) rfl ?_;simp only [band,beq_iff_eq,beq_eq_false_iff_ne,decide_eq_true_eq,decide_eq_false_iff_not]at *
    unfold shF
    (repeat' split) <;> first | rfl | omega
   ·refine sk (sq (rgs [] rfl ?_ ?_))
    ·exact (tJ b).1
    refine WP.ret ?_;change Fin ..;refine qA (by rfl) (by rfl) rfl ?_;simp only [band,beq_iff_eq,beq_eq_false_iff_ne,decide_eq_true_eq,decide_eq_false_iff_not]at *
    unfold shF
    (repeat' split) <;> first | rfl | omega
def xK (op a b:Int):Int:=if op=16 then wI (a+b)else if op=17 then wI (a - b)else if op=18 then wI (a*b)else if op=21 then bA .i64 a b else if op=22 then bO .i64 a b else if op=23 then bX .i64 a b else
 if op=24 then bN .i64 a b else if op=28 then wI (Qb (wU a) (bA .i64 b 63))else if op=29 then zk (a==b)else if op=30 then zk (a != b)else if op=31 then zk (decide (a<b))else
 if op=32 then zk (decide (a≤b))else if op=33 then zk (decide (wU a<wU b))else if op=34 then (if b<a then b else a)else if op=35 then (if b>a then b else a)else wI (pF a b)
theorem PY (op a b:Int):AC Tryz.prog T aV 272 [.int op,.int a,.int b] [] (.int (xK op a b)) []:=by
 refine aA hT Tryz.func272 rfl rfl (Nat.le_of_ble_eq_true rfl) ?_;refine sg rfl ?_;refine sq (sq (rg [] rfl ?_));refine bk (sq (rg [] rfl ?_));refine cd rfl (fun h2=>?_) (fun h2=>?_)
 ·refine sg rfl ?_;refine WP.ret ?_;change Fin ..;refine dQ hT (by rfl) ?_;simp only [beq_iff_eq,beq_eq_false_iff_ne]at *
  unfold xK;simp_all only [Int.reduceEq,if_true,if_false,ne_eq,not_false_eq_true,not_true_eq_false]
  all_goals rfl
 ·refine sg rfl ?_;refine cd rfl (fun h4=>?_) (fun h4=>?_)
  ·refine sg rfl ?_;refine WP.ret ?_;change Fin ..;refine dQ hT (by rfl) ?_;simp only [beq_iff_eq,beq_eq_false_iff_ne]at *
   unfold xK;simp_all only [Int.reduceEq,if_true,if_false,ne_eq,not_false_eq_true,not_true_eq_false]
   all_goals rfl
  ·refine sg rfl ?_;refine cd rfl (fun h6=>?_) (fun h6=>?_)
   ·refine sg rfl ?_;refine WP.ret ?_;change Fin ..;refine dQ hT (by rfl) ?_;simp only [beq_iff_eq,beq_eq_false_iff_ne]at *
    unfold xK;simp_all only [Int.reduceEq,if_true,if_false,ne_eq,not_false_eq_true,not_true_eq_false]
    all_goals rfl
   ·refine sg rfl ?_;refine cd rfl (fun h8=>?_) (fun h8=>?_)
    ·refine sg rfl ?_;refine WP.ret ?_;change Fin ..;refine dQ hT (by rfl) ?_;simp only [beq_iff_eq,beq_eq_false_iff_ne]at *
     unfold xK;simp_all only [Int.reduceEq,if_true,if_false,ne_eq,not_false_eq_true,not_true_eq_false]
     all_goals rfl
    ·refine sg rfl ?_;refine cd rfl (fun h10=>?_) (fun h10=>?_)
     ·refine sg rfl ?_;refine WP.ret ?_;change Fin ..;refine dQ hT (by rfl) ?_;simp only [beq_iff_eq,beq_eq_false_iff_ne]at *
      unfold xK;simp_all only [Int.reduceEq,if_true,if_false,ne_eq,not_false_eq_true,not_true_eq_false]
      all_goals rfl
     ·refine sg rfl ?_;refine cd rfl (fun h12=>?_) (fun h12=>?_)
      ·refine sg rfl ?_;refine WP.ret ?_;change Fin ..;refine dQ hT (by rfl) ?_;simp only [beq_iff_eq,beq_eq_false_iff_ne]at *
       unfold xK;simp_all only [Int.reduceEq,if_true,if_false,ne_eq,not_false_eq_true,not_true_eq_false]
       all_goals rfl
      ·refine sg rfl ?_;refine cd rfl (fun h14=>?_) (fun h14=>?_)
       ·refine sg rfl ?_;refine WP.ret ?_;change Fin ..;refine dQ hT (by rfl) ?_;simp only [beq_iff_eq,beq_eq_false_iff_ne]at *
        unfold xK;simp_all only [Int.reduceEq,if_true,if_false,ne_eq,not_false_eq_true,not_true_eq_false]
        all_goals rfl
       ·refine sg rfl ?_;refine cd rfl (fun h16=>?_) (fun h16=>?_)
        ·refine sq (rgs [CG.pure (.v (.int .u64 (Qb (wU a) (bA .i64 b 63))))] rfl ?_ ?_)
         ·have hq:=Qa (wU a) (bA .i64 b 63);exact au
         refine WP.ret ?_;change Fin ..;refine dQ hT (by rfl) ?_;simp only [beq_iff_eq,beq_eq_false_iff_ne]at *
         unfold xK;simp_all only [Int.reduceEq,if_true,if_false,ne_eq,not_false_eq_true,not_true_eq_false]
         all_goals rfl
        ·refine sg rfl ?_;refine cd rfl (fun h18=>?_) (fun h18=>?_)
         ·refine sq (rgs [CG.pure (.int (zk (a==b)))] rfl ?_ ?_)
          ·have hq:=tC (a==b);exact au
          refine WP.ret ?_;change Fin ..;refine dQ hT (by rfl) ?_;simp only [beq_iff_eq,beq_eq_false_iff_ne]at *
          unfold xK;simp_all only [Int.reduceEq,if_true,if_false,ne_eq,not_false_eq_true,not_true_eq_false]
          all_goals rfl
         ·refine sg rfl ?_;refine cd rfl (fun h20=>?_) (fun h20=>?_)
          ·refine sq (rgs [CG.pure (.int (zk (a != b)))] rfl ?_ ?_)
           ·have hq:=tC (a != b);exact au
           refine WP.ret ?_;change Fin ..;refine dQ hT (by rfl) ?_;simp only [beq_iff_eq,beq_eq_false_iff_ne]at *
           unfold xK;simp_all only [Int.reduceEq,if_true,if_false,ne_eq,not_false_eq_true,not_true_eq_false]
           all_goals rfl
          ·refine sg rfl ?_;refine cd rfl (fun h22=>?_) (fun h22=>?_)
           ·refine sq (rgs [CG.pure (.int (zk (decide (a<b))))] rfl ?_ ?_)
            ·have hq:=tC (decide (a<b));exact au
            refine WP.ret ?_;change Fin ..;refine dQ hT (by rfl) ?_;simp only [beq_iff_eq,beq_eq_false_iff_ne]at *
            unfold xK;simp_all only [Int.reduceEq,if_true,if_false,ne_eq,not_false_eq_true,not_true_eq_false]
            all_goals rfl
           ·refine sg rfl ?_;refine cd rfl (fun h24=>?_) (fun h24=>?_)
            ·refine sq (rgs [CG.pure (.int (zk (decide (a≤b))))] rfl ?_ ?_)
             ·have hq:=tC (decide (a≤b));exact au
             refine WP.ret ?_;change Fin ..;refine dQ hT (by rfl) ?_;simp only [beq_iff_eq,beq_eq_false_iff_ne]at *
             unfold xK;simp_all only [Int.reduceEq,if_true,if_false,ne_eq,not_false_eq_true,not_true_eq_false]
             all_goals rfl
            ·refine sg rfl ?_;refine cd rfl (fun h26=>?_) (fun h26=>?_)
             ·refine sq (rgs [CG.pure (.int (zk (decide (wU a<wU b))))] rfl ?_ ?_)
              ·have hq:=tC (decide (wU a<wU b));exact au
              refine WP.ret ?_;change Fin ..;refine dQ hT (by rfl) ?_;simp only [beq_iff_eq,beq_eq_false_iff_ne]at *
              unfold xK;simp_all only [Int.reduceEq,if_true,if_false,ne_eq,not_false_eq_true,not_true_eq_false]
              all_goals rfl
             ·refine sg rfl ?_;refine cd rfl (fun h28=>?_) (fun h28=>?_)
              ·refine sg rfl ?_;refine WP.ret ?_;change Fin ..;refine dQ hT (by rfl) ?_;simp only [beq_iff_eq,beq_eq_false_iff_ne]at *
               unfold xK;simp_all only [Int.reduceEq,if_true,if_false,ne_eq,not_false_eq_true,not_true_eq_false]
               all_goals rfl
              ·refine sg rfl ?_;refine cd rfl (fun h30=>?_) (fun h30=>?_)
               ·refine sg rfl ?_;refine WP.ret ?_;change Fin ..;refine dQ hT (by rfl) ?_;simp only [beq_iff_eq,beq_eq_false_iff_ne]at *
                unfold xK;simp_all only [Int.reduceEq,if_true,if_false,ne_eq,not_false_eq_true,not_true_eq_false]
                all_goals rfl
               ·refine sk (sq (rgs [CG.pure (.tup [.int (wI (pF a b)),.v (.int .u64 (II a b))])] rfl ?_ ?_))
                ·have hq:=NK a b;exact au
                refine sg rfl ?_;refine WP.ret ?_;change Fin ..;refine dQ hT (by rfl) ?_;simp only [beq_iff_eq,beq_eq_false_iff_ne]at *
                unfold xK;simp_all only [Int.reduceEq,if_true,if_false,ne_eq,not_false_eq_true,not_true_eq_false]
                all_goals rfl
def NI (op a b:Int):Int×Int:=if sD op=0 then (0,22)else if sD op=1 then (yx op a,0)else if op=19∨op=20 then JY op a b else if 25≤op∧op≤27 then shF op a b else (xK op a b,0)
theorem MN (op a b:Int):AC Tryz.prog T aV 244 [.int op,.int a,.int b] [] (.tup [.int (NI op a b).1,.int (NI op a b).2]) []:=by
 refine aA hT Tryz.func244 rfl rfl (Nat.le_of_ble_eq_true rfl) ?_;refine sg rfl ?_;refine sq (bk (sq (rgs [CG.pure (.int (sD op))] rfl ?_ ?_)))
 ·have hq:=EY op;exact au
 refine cd rfl (fun h1=>?_) (fun h1=>?_)
 ·refine sg rfl ?_;refine WP.ret ?_;change Fin ..;refine qA (by rfl) (by rfl) rfl ?_
  (try simp only [bor,band]at *)
  simp at *
  unfold NI
  (repeat' split) <;> first | rfl | omega
 ·refine sq (rgs [CG.pure (.int (sD op))] rfl ?_ ?_)
  ·have hq:=EY op;exact au
  refine cd rfl (fun h3=>?_) (fun h3=>?_)
  ·refine sq (rgs [CG.pure (.int (yx op a))] rfl ?_ ?_)
   ·have hq:=Qp op a;exact au
   refine WP.ret ?_;change Fin ..;refine qA (by rfl) (by rfl) rfl ?_
   (try simp only [bor,band]at *)
   simp at *
   unfold NI
   (repeat' split) <;> first | rfl | omega
  ·refine sg rfl ?_;refine cd rfl (fun h5=>?_) (fun h5=>?_)
   ·refine sq (rgs [CG.pure (.tup [.int (JY op a b).1,.int (JY op a b).2])] rfl ?_ ?_)
    ·have hq:=Gn op a b;exact au
    refine WP.ret ?_;change Fin ..;refine qA (by rfl) (by rfl) rfl ?_
    (try simp only [bor,band]at *)
    simp at *
    unfold NI
    (repeat' split) <;> first | rfl | omega
   ·refine sg rfl ?_;refine cd rfl (fun h7=>?_) (fun h7=>?_)
    ·refine sq (rgs [CG.pure (.tup [.int (shF op a b).1,.int (shF op a b).2])] rfl ?_ ?_)
     ·have hq:=Fq op a b;exact au
     refine WP.ret ?_;change Fin ..;refine qA (by rfl) (by rfl) rfl ?_
     (try simp only [bor,band]at *)
     simp at *
     unfold NI
     (repeat' split) <;> first | rfl | omega
    ·refine sk (sq (rgs [CG.pure (.int (xK op a b))] rfl ?_ ?_))
     ·have hq:=PY op a b;exact au
     refine WP.ret ?_;change Fin ..;refine qA (by rfl) (by rfl) rfl ?_
     (try simp only [bor,band]at *)
     simp at *
     unfold NI
     (repeat' split) <;> first | rfl | omega
def z8:List Int:=[0,0,0,0,0,0,0,0]
def Di (g:PGo) (st why:Int):PGo:={ g with status:=st,why:=why,regs:=z8}
theorem GL (t:Nat):(AV.agg t 8 fun _=>AV.int 0)=mQ t 8 .i64 z8:=aW fun i=>by match i with | 0 | 1 | 2 | 3 | 4 | 5 | 6 | 7=>rfl | i+8=>rfl
theorem L6 (g:PGo) (st why:Int):(((bH g).put [0] (.int st)).put [3] (.int why)).put [4] (.agg 52 8 fun _=>AV.int 0)=bH (Di g st why):=by
 rw [fQ,zO,GL,FN];rfl
theorem yT (g:PGo) (st why:Int):AC Tryz.prog T aV 243 [bH g,.int st,.int why] [] (bH (Di g st why)) []:=by
 refine aA hT Tryz.func243 rfl rfl (Nat.le_of_ble_eq_true rfl) ?_;refine sg rfl ?_;refine sg rfl ?_;refine sg rfl ?_;exact WP.ret (fH hT rfl rfl rfl rfl rfl (ah (L6 g st why)) rfl rfl rfl)
def P8 (g:PGo) (r v:Int):PGo:={ g with regs:=g.regs.set r.toNat v}
def KY (g:PGo) (x:kE):Int×Int:=NI x.op (dY g x.b) (if x.op>15 then dY g x.c else 0)
def zf (g:PGo) (x:kE):PGo :=
 if x.op=40 then P8 { g with pc:=g.pc+1} x.a x.n else if x.op=41 then P8 { g with pc:=g.pc+1} x.a (dY g x.b)else if x.op=42 then { g with pc:=x.a}else
 if x.op=43 then (if dY g x.a≠0 then { g with pc:=x.b}else { g with pc:=g.pc+1})else if x.op=44 then (if dY g x.a=0 then Di g 4 1 else { g with pc:=g.pc+1})else
 if x.op=45 then Di g 3 0 else if (KY g x).2=20 then Di g 4 2 else if (KY g x).2=21 then Di g 4 3 else P8 { g with pc:=g.pc+1} x.a (KY g x).1
theorem Qw {g:PGo} (h:0≤g.pc∧g.pc<64):(bH g).put [2] (.int (IntKind.i64.wrap (g.pc+1)))=bH { g with pc:=g.pc+1}:=by
 rw [cu (by omega) (by omega)];exact oz _ _
theorem EW {g:PGo} (h:0≤g.pc∧g.pc<64):(bH { g with pc:=g.pc+1}).put [2] (.int (IntKind.i64.wrap (g.pc+1 - 1)))=bH g:=by
 rw [cu (by omega) (by omega),oz];congr 1;cases g;simp
theorem Le (p:ay) (f:iW) (g:PGo) (x:kE) (hf:Gz p f) (hx:MW p f x) (hl:Ey x.op=true) (hg:KR g) (hpc:0≤g.pc∧g.pc<64):AC Tryz.prog T aV 205 [bH g,aQ x] [] (bH (zf g x)) []:=by
 refine aA hT Tryz.func205 rfl rfl (Nat.le_of_ble_eq_true rfl) ?_;have hr:=hf.regs
 have hg8:g.regs.length=8:=hg;have hl':(1≤x.op∧x.op≤36)∨(40≤x.op∧x.op≤45):=by simp [Ey]at hl;omega
 have hn:=hx.num;have hn2:=hx.num2;have hc:=hx.const;have hm:=hx.move;have hj:=hx.jump;have hcd:=hx.cond
 simp only [lJ,eP]at hn hn2 hc hm hj hcd;refine sg rfl ?_;refine sg rfl ?_;refine sq (sq ?_);refine WP.ent (st':=aP [(3,.rp 120 (aQ x)),(2,.ptr (.s 2 0) 1 0 []),(4,.ptr (.s 4 0) 1 0 [])] [(.s 2 0,.cells ⟨59,1,fun _=>bH { g with pc:=g.pc+1},0⟩),(.s 4 0,.cells ⟨59,1,fun _=>(T 59).zero,0⟩)]) (em [(.s 3 0,1)] ⟨sF,tt⟩ ⟨rq,cq,cq,tt⟩ ⟨obs rfl (hg:=q0 (ah (Qw hpc))),obs rfl,tt⟩) ?_;refine rg [] rfl ?_;refine bk (sq (rg [] rfl ?_));refine cd rfl (fun h15=>?_) (fun h15=>?_)
 ·have e:x.op=40:=by simpa using h15
  have:=hc (.inl e);refine rgs [] rfl ?_ ?_
  ·simp [-List.getD_eq_getElem?_getD,aj,under];omega
  refine sg rfl ?_;refine WP.ret ?_;change Fin ..;refine fH hT rfl rfl rfl rfl rfl (ah ?_) rfl rfl rfl;rw [zf,if_pos e];exact kY _ (by show x.a.toNat<g.regs.length;omega)
 ·have e0:x.op≠40:=by simpa using h15
  refine sg rfl ?_;refine cd rfl (fun h17=>?_) (fun h17=>?_)
  ·have e:x.op=41:=by simpa using h17
   have:=hm e;refine drs [] rfl ?_ ?_
   ·simp [-List.getD_eq_getElem?_getD,aj,under];omega
   refine sg rfl ?_;refine WP.ret ?_;change Fin ..;refine fH hT rfl rfl rfl rfl rfl (ah ?_) rfl rfl rfl;rw [zf,if_neg e0,if_pos e];exact kY _ (by show x.a.toNat<g.regs.length;omega)
  ·have e1:x.op≠41:=by simpa using h17
   refine sg rfl ?_;refine cd rfl (fun h19=>?_) (fun h19=>?_)
   ·have e:x.op=42:=by simpa using h19
    refine rg [] rfl ?_;refine sg rfl ?_;refine WP.ret ?_;change Fin ..;refine fH hT rfl rfl rfl rfl rfl (ah ?_) rfl rfl rfl;rw [zf,if_neg e0,if_neg e1,if_pos e];exact oz _ _
   ·have e2:x.op≠42:=by simpa using h19
    refine sg rfl ?_;refine cd rfl (fun h21=>?_) (fun h21=>?_)
    ·have e:x.op=43:=by simpa using h21
     have:=hc (.inr (.inr (.inr (.inr e))));refine sq (rgs [] rfl ?_ ?_)
     ·simp [-List.getD_eq_getElem?_getD,aj,under];omega
     refine cd rfl (fun h22=>?_) (fun h22=>?_)
     ·have hz:dY g x.a≠0:=by simp [-List.getD_eq_getElem?_getD]at h22;exact h22
      refine rg [] rfl ?_;refine sg rfl ?_;refine WP.ret ?_;change Fin ..;refine fH hT rfl rfl rfl rfl rfl (ah ?_) rfl rfl rfl;rw [zf,if_neg e0,if_neg e1,if_neg e2,if_pos e,if_pos hz];exact oz _ _
     ·have hz:¬ dY g x.a≠0:=by simp [-List.getD_eq_getElem?_getD]at h22;simpa using h22
      refine sk (sq (rg [] rfl ?_));refine WP.ret ?_;change Fin ..;refine fH hT rfl rfl rfl rfl rfl (ah ?_) rfl rfl rfl;rw [zf,if_neg e0,if_neg e1,if_neg e2,if_pos e,if_neg hz];rfl
    ·have e3:x.op≠43:=by simpa using h21
     refine sg rfl ?_;refine cd rfl (fun h24=>?_) (fun h24=>?_)
     ·have e:x.op=44:=by simpa using h24
      have:=hc (.inr (.inl e));refine sq (rgs [] rfl ?_ ?_)
      ·simp [-List.getD_eq_getElem?_getD,aj,under];omega
      refine cd rfl (fun h25=>?_) (fun h25=>?_)
      ·have hz:dY g x.a=0:=by simp [-List.getD_eq_getElem?_getD]at h25;exact h25
       refine sg rfl ?_;refine sq ?_;refine WP.ent (st':=aP [(2,.ptr (.s 2 0) 1 0 []),(4,.ptr (.s 4 0) 1 0 [])] [(.s 2 0,.cells ⟨59,1,fun _=>bH g,0⟩),(.s 4 0,.cells ⟨59,1,fun _=>(T 59).zero,0⟩)]) (em [] trivial ⟨cq,cq,tt⟩ ⟨obs rfl (hg:=q0 (ah (EW hpc))),obs rfl,tt⟩) ?_;refine rgs [CG.pure (bH (Di g 4 1))] rfl ?_ ?_
       ·have hq:=yT g 4 1;exact au
       refine WP.ret ?_;change Fin ..;refine fH hT rfl rfl rfl rfl rfl (ah ?_) rfl rfl rfl;rw [zf,if_neg e0,if_neg e1,if_neg e2,if_neg e3,if_pos e,if_pos hz];rfl
      ·have hz:¬ dY g x.a=0:=by simp [-List.getD_eq_getElem?_getD]at h25;exact h25
       refine sk (sq (rg [] rfl ?_));refine WP.ret ?_;change Fin ..;refine fH hT rfl rfl rfl rfl rfl (ah ?_) rfl rfl rfl;rw [zf,if_neg e0,if_neg e1,if_neg e2,if_neg e3,if_pos e,if_neg hz];rfl
     ·have e4:x.op≠44:=by simpa using h24
      refine sg rfl ?_;refine cd rfl (fun h28=>?_) (fun h28=>?_)
      ·have e:x.op=45:=by simpa using h28
       refine sg rfl ?_;refine sq ?_;refine WP.ent (st':=aP [(2,.ptr (.s 2 0) 1 0 []),(4,.ptr (.s 4 0) 1 0 [])] [(.s 2 0,.cells ⟨59,1,fun _=>bH g,0⟩),(.s 4 0,.cells ⟨59,1,fun _=>(T 59).zero,0⟩)]) (em [] trivial ⟨cq,cq,tt⟩ ⟨obs rfl (hg:=q0 (ah (EW hpc))),obs rfl,tt⟩) ?_;refine rgs [CG.pure (bH (Di g 3 0))] rfl ?_ ?_
       ·have hq:=yT g 3 0;exact au
       refine WP.ret ?_;change Fin ..;refine fH hT rfl rfl rfl rfl rfl (ah ?_) rfl rfl rfl;rw [zf,if_neg e0,if_neg e1,if_neg e2,if_neg e3,if_neg e4,if_pos e];rfl
      ·have e5:x.op≠45:=by simpa using h28
       have:=hn (by omega);refine sg rfl ?_;refine WP.seqJ (α:=Unit) (fun _=>aP [(2,.ptr (.s 2 0) 1 0 []),(3,.rp 120 (aQ x)),(4,.ptr (.s 4 0) 1 0 []),(5,.int (if x.op>15 then dY g x.c else 0))] [(.s 2 0,.cells ⟨59,1,fun _=>bH { g with pc:=g.pc+1},0⟩),(.s 4 0,.cells ⟨59,1,fun _=>(T 59).zero,0⟩)]) (fun _=>True) ?_ ?_
       ·refine sg rfl ?_;refine cd rfl (fun h4=>?_) (fun h4=>?_)
        ·have h16:x.op>15:=by simpa using h4
         have:=hn2 (by omega);refine rgs [] rfl ?_ ?_
         ·simp [-List.getD_eq_getElem?_getD,aj,under];omega
         refine ⟨(),?_,?_⟩
         ·trivial
         ·refine em [] trivial ⟨cq,cq,cq,⟨rfl,_,rfl,ah (by rw [if_pos h16])⟩,tt⟩ ⟨obs rfl,obs rfl,tt⟩
        ·refine sk ?_;refine ⟨(),?_,?_⟩
         ·trivial
         ·refine em [] trivial ⟨cq,cq,cq,⟨rfl,_,rfl,ah (by rw [if_neg (by simpa using h4)])⟩,tt⟩ ⟨obs rfl,obs rfl,tt⟩
       ·rintro _ h_inv;refine sq (drs [CG.pure (.tup [.int (KY g x).1,.int (KY g x).2])] rfl ?_ ?_)
        ·have hq:=MN x.op (dY g x.b) (if x.op>15 then dY g x.c else 0);exact au
        refine sq (sq (rg [] rfl ?_));refine bk (sq (rg [] rfl ?_));refine cd rfl (fun h8=>?_) (fun h8=>?_)
        ·have hz:(KY g x).2=20:=by simpa using h8
         refine sg rfl ?_;refine sq ?_;refine WP.ent (st':=aP [(2,.ptr (.s 2 0) 1 0 []),(4,.ptr (.s 4 0) 1 0 [])] [(.s 2 0,.cells ⟨59,1,fun _=>bH g,0⟩),(.s 4 0,.cells ⟨59,1,fun _=>(T 59).zero,0⟩)]) (em [] trivial ⟨cq,cq,tt⟩ ⟨obs rfl (hg:=q0 (ah (EW hpc))),obs rfl,tt⟩) ?_;refine rgs [CG.pure (bH (Di g 4 2))] rfl ?_ ?_
         ·have hq:=yT g 4 2;exact au
         refine WP.ret ?_;change Fin ..;refine fH hT rfl rfl rfl rfl rfl (ah ?_) rfl rfl rfl;rw [zf,if_neg e0,if_neg e1,if_neg e2,if_neg e3,if_neg e4,if_neg e5,if_pos hz];rfl
        ·have hz:(KY g x).2≠20:=by simpa using h8
         refine sg rfl ?_;refine cd rfl (fun h11=>?_) (fun h11=>?_)
         ·have hy:(KY g x).2=21:=by simpa using h11
          refine sg rfl ?_;refine sq ?_;refine WP.ent (st':=aP [(2,.ptr (.s 2 0) 1 0 []),(4,.ptr (.s 4 0) 1 0 [])] [(.s 2 0,.cells ⟨59,1,fun _=>bH g,0⟩),(.s 4 0,.cells ⟨59,1,fun _=>(T 59).zero,0⟩)]) (em [] trivial ⟨cq,cq,tt⟩ ⟨obs rfl (hg:=q0 (ah (EW hpc))),obs rfl,tt⟩) ?_;refine rgs [CG.pure (bH (Di g 4 3))] rfl ?_ ?_
          ·have hq:=yT g 4 3;exact au
          refine WP.ret ?_;change Fin ..;refine fH hT rfl rfl rfl rfl rfl (ah ?_) rfl rfl rfl;rw [zf,if_neg e0,if_neg e1,if_neg e2,if_neg e3,if_neg e4,if_neg e5,if_neg hz,if_pos hy];rfl
         ·have hy:(KY g x).2≠21:=by simpa using h11
          refine sk (rgs [] rfl ?_ ?_)
          ·simp [-List.getD_eq_getElem?_getD,aj,under];omega
          refine sg rfl ?_;refine WP.ret ?_;change Fin ..;refine fH hT rfl rfl rfl rfl rfl (ah ?_) rfl rfl rfl;rw [zf,if_neg e0,if_neg e1,if_neg e2,if_neg e3,if_neg e4,if_neg e5,if_neg hz,if_neg hy];exact kY _ (by show x.a.toNat<g.regs.length;omega)
abbrev atF (F:iW) (g:PGo):kE:=F.code.getD g.pc.toNat zh
def Pz (F:iW) (g:PGo):Bool:=g.status==1&&Ey (atF F g).op
def BF (F:iW):Nat→PGo→PGo
 | 0,g=>if Pz F g then { g with status:=5}else g
 | n+1,g=>if Pz F g then BF F n (zf g (atF F g))else g
def CW (F:iW) (g:PGo):Prop:=KR g∧eP g.pc F.code.length
theorem Ov {p:ay} {F:iW} (hF:Gz p F) {n:Int} (h:eP n F.code.length) (he:Bj (F.code.getD n.toNat zh).op=false):eP (n+1) F.code.length:=by
 have h1:=hF.last;have h2:=hF.code
 unfold eP at h ⊢;refine ⟨by omega,?_⟩;rcases Int.lt_or_le (n+1) F.code.length with hl | hl
 ·exact hl
 ·have e:n.toNat=F.code.length - 1:=by omega
  rw [e]at he;unfold yG at h1;rw [h1]at he;cases he
theorem IW {p:ay} {F:iW} (hF:Gz p F) {n:Int} (h:eP n F.code.length):MW p F (F.code.getD n.toNat zh):=by
 unfold eP at h;have h1:n.toNat<F.code.length:=by omega
 rw [List.getD_eq_getElem?_getD,List.getElem?_eq_getElem h1];exact hF.ins _ (List.getElem_mem h1)
theorem IJ {p:ay} {F:iW} (hF:Gz p F) {g:PGo} (hg:CW F g) (hl:Ey (atF F g).op=true):CW F (zf g (atF F g))∧(zf g (atF F g)).func=g.func:=by
 obtain ⟨h1,h2⟩:=hg;have hi:=IW hF h2
 have hn:(atF F g).op≠42→(atF F g).op≠45→eP (g.pc+1) F.code.length:=fun a b=>Ov hF h2 (by
  have:(atF F g).op≠61:=by simp [-List.getD_eq_getElem?_getD,Ey]at hl;omega
  simp only [Bj,Bool.or_eq_false_iff,beq_eq_false_iff_ne];exact ⟨⟨a,b⟩,this⟩)
 have hs:∀ r v,KR (P8 { g with pc:=g.pc+1} r v):=fun r v=>by
  show (g.regs.set _ _).length=8;rw [List.length_set];exact h1
 unfold zf;split
 ·rename_i e;exact ⟨⟨hs _ _,hn (by omega) (by omega)⟩,rfl⟩
 split
 ·rename_i e;exact ⟨⟨hs _ _,hn (by omega) (by omega)⟩,rfl⟩
 split
 ·rename_i e;exact ⟨⟨h1,hi.jump e⟩,rfl⟩
 split
 ·rename_i e;split
  ·exact ⟨⟨h1,hi.cond e⟩,rfl⟩
  ·exact ⟨⟨h1,hn (by omega) (by omega)⟩,rfl⟩
 split
 ·rename_i e;split
  ·exact ⟨⟨rfl,h2⟩,rfl⟩
  ·exact ⟨⟨h1,hn (by omega) (by omega)⟩,rfl⟩
 split
 ·exact ⟨⟨rfl,h2⟩,rfl⟩
 split
 ·exact ⟨⟨rfl,h2⟩,rfl⟩
 split
 ·exact ⟨⟨rfl,h2⟩,rfl⟩
 ·exact ⟨⟨hs _ _,hn (by assumption) (by assumption)⟩,rfl⟩
theorem BQ {p:ay} {F:iW} (hF:Gz p F):∀ {n:Nat} {g:PGo},CW F g→CW F (BF F n g)∧(BF F n g).func=g.func
 | 0,g,h=>by
  rw [BF];split
  ·exact ⟨⟨h.1,h.2⟩,rfl⟩
  ·exact ⟨h,rfl⟩
 | n+1,g,h=>by
  rw [BF];split
  ·rename_i hr;have hl:Ey (atF F g).op=true:=by
    have h3:=hr;rw [Pz,Bool.and_eq_true]at h3;exact h3.2
   obtain ⟨h1,h2⟩:=IJ hF h hl;obtain ⟨h3,h4⟩:=BQ hF (n:=n) h1;exact ⟨h3,h4.trans h2⟩
  ·exact ⟨h,rfl⟩
theorem DF:(T 59).zero=bH go0:=congrArg (fun z=>bG 59 [.int 0,.int 0,.int 0,.int 0,z]) (GL _)
theorem MX (t:Nat):(AV.agg t 4 fun _=>AV.int 0)=mQ t 4 .i64 [0,0,0,0]:=aW fun i=>by match i with | 0 | 1 | 2 | 3=>rfl | i+4=>rfl
theorem PS:(T 56).zero=fM ch0:=congrArg (fun z=>bG 56 [z,.int 0,.bool false,.int 0,.int 0,.int 0]) (MX _)
theorem zeroS:(T 62).zero=encS st0:=by
 have h1:(AV.agg 57 4 fun _=>(T 56).zero)=BA 57 4 fM ch0 st0.chans:=aW fun i=>by rw [PS];match i with | 0 | 1 | 2 | 3=>rfl | i+4=>rfl
 have h2:(AV.agg 60 6 fun _=>(T 59).zero)=BA 60 6 bH go0 st0.gos:=aW fun i=>by rw [DF];match i with | 0 | 1 | 2 | 3 | 4 | 5=>rfl | i+6=>rfl
 show bG 62 [.agg 52 8 fun _ => .int 0,.agg 53 4 fun _ => .int 0,.agg 57 4 fun _=>(T 56).zero,.agg 60 6 fun _=>(T 59).zero,.int 0]=_;rw [h1,h2,GL,MX];rfl
theorem xg (n:Int):AC Tryz.prog T aV 142 [.int n] [] (.bool (decide (0≤n∧n≤4096))) []:=by
 refine aA hT Tryz.func142 rfl rfl (Nat.le_of_ble_eq_true rfl) ?_;refine sg rfl ?_;refine sg rfl ?_;refine WP.ret ?_;change Fin ..;refine fin1 hT (by rfl) ?_;simp only [band];rw [Bool.eq_iff_iff];simp
theorem wL (p:ay) (g:PGo) (n:Nat) (hp:wG p) (hb:eP g.func p.funcs.length) (hg:CW (jv p g) g) (hn:n≤4096):AC Tryz.prog T aV 143 [aC p,bH g,.int n] [] (bH (BF (jv p g) n g)) []:=by
 refine aA hT Tryz.func143 rfl rfl (Nat.le_of_ble_eq_true rfl) ?_;have hF:Gz p (jv p g):=hp.fn _ (by
  unfold eP at hb;rw [jv,List.getD_eq_getElem?_getD,List.getElem?_eq_getElem (show g.func.toNat<p.funcs.length by omega)];exact List.getElem_mem _)
 have hcl:=hF.code;refine sg rfl ?_;refine sq (rgs [] rfl ?_ ?_)
 ·unfold eP at hb;simp [-List.getD_eq_getElem?_getD,aj,under];omega
 refine sq (bk ?_);refine WP.loop (α:=Nat×PGo) (fun (⟨k,x⟩:Nat×PGo)=>aP [(2,.int k),(4,.ptr (.s 4 0) 1 0 []),(6,.ptr (.s 6 0) 1 0 []),(7,rowP 120 aQ zh (jv p g).code)] [(.s 4 0,.cells ⟨59,1,fun _=>bH x,0⟩),(.s 6 0,.cells ⟨59,1,fun _=>(T 59).zero,0⟩)]) (fun (⟨k,x⟩:Nat×PGo)=>BF (jv p g) k x=BF (jv p g) n g∧CW (jv p g) x∧k≤n) (fun (⟨k,x⟩:Nat×PGo)=>k) ?_ ?_
 ·refine ⟨⟨n,g⟩,?_,?_⟩
  ·exact ⟨rfl,hg,Nat.le_refl _⟩
  ·refine em [] trivial ⟨cq,cq,cq,cq,tt⟩ ⟨obs rfl,obs rfl,tt⟩
 ·rintro ⟨k,x⟩ ⟨hs,hx,hk⟩;have hpc:=hx.2
  simp only [eP]at hpc;refine sq (sq (rgs [CG.pure (.bool (Ey (atF (jv p g) x).op))] rfl ?_ ?_))
  ·have hq:=zU (atF (jv p g) x).op;exact au
  refine cd rfl (fun h2=>?_) (fun h2=>?_)
  ·have hr:Pz (jv p g) x=true:=by simp only [band]at h2;exact h2
   have hl:Ey (atF (jv p g) x).op=true:=by
    have h3:=hr;rw [Pz,Bool.and_eq_true]at h3;exact h3.2
   have hi:=IW hF hx.2;refine sk (bk (sq (sq (rg [] rfl ?_))));refine cd rfl (fun h3=>?_) (fun h3=>?_)
   ·have hk0:k=0:=by simp at h3;omega
    subst hk0;refine sg rfl ?_;refine sg rfl ?_;refine WP.ret ?_;change Fin ..;refine fH hT rfl rfl rfl rfl rfl (ah ?_) rfl rfl rfl;rw [← hs,BF,if_pos hr];exact fQ _ _
   ·have hk0:0<k:=by simp at h3;omega
    obtain ⟨j,rfl⟩:∃ j,k=j+1:=⟨k - 1,by omega⟩;refine sk (sq (rg [] rfl ?_));refine drs [CG.pure (bH (zf x (atF (jv p g) x)))] rfl ?_ ?_
    ·have hq:=Le p (jv p g) x (atF (jv p g) x) hF hi hl hx.1 (by omega);exact au
    refine ⟨⟨j,zf x (atF (jv p g) x)⟩,?_,?_,?_⟩
    ·rw [BF,if_pos hr]at hs;exact ⟨hs,(IJ hF hx hl).1,by omega⟩
    ·refine em [] trivial ⟨⟨rfl,_,rfl,ah (by rw [cu (by omega) (by omega)];simp)⟩,cq,cq,cq,tt⟩ ⟨obs rfl,obs rfl,tt⟩
    ·(try simp only []);first | omega | grind
  ·have hr:Pz (jv p g) x=false:=by simp only [band]at h2;exact h2
   refine xt (sq (rg [] rfl ?_));refine WP.ret ?_;change Fin ..;refine fH hT rfl rfl rfl rfl rfl (ah ?_) rfl rfl rfl;rw [← hs];cases k with
   | zero=>rw [BF,if_neg (by rw [hr];decide)];rfl
   | succ j=>rw [BF,if_neg (by rw [hr];decide)];rfl
def nT (p:ay) (i:Nat):List Int:=(List.range 8).map fun k=>if k<i then (p.vars.getD k Px).init else 0
theorem wZ (p:ay) (i:Nat):(nT p i).length=8:=by simp [nT]
theorem Gf {p:ay} {i:Nat} (h:i<8):(nT p i).set i (p.vars.getD i Px).init=nT p (i+1):=by
 refine List.ext_getElem (by simp [nT]) fun k h1 h2=>?_;have hk:k<8:=by simpa [nT]using h2
 rw [List.getElem_set];simp only [nT,List.getElem_map,List.getElem_range];split
 ·subst_vars;rw [if_pos (by omega)]
 ·by_cases e:k<i
  ·rw [if_pos e,if_pos (by omega)]
  ·rw [if_neg e,if_neg (by omega)]
def live0:PGo:={ go0 with status:=1}
def Sv (p:ay) (n:Nat):PSt:={ st0 with vars:=nT p p.vars.length,gos:=[BF (bn p 0) n live0,go0,go0,go0,go0,go0],count:=1}
def dV (p:ay) (n:Int):PSt×Int:=if fE p=false then (st0,3)else if ¬ (0≤n∧n≤4096)then (st0,1)else (Sv p n.toNat,0)
theorem Qx {p:ay} (hp:wG p):CW (bn p 0) live0:=⟨rfl,by have:=(hp.fn (bn p 0) (by rw [bn,List.getD_eq_getElem?_getD,List.getElem?_eq_getElem (show 0<p.funcs.length by have:=hp.funcs;omega)];exact List.getElem_mem _)).code;exact ⟨by decide,by show (0:Int)<_;omega⟩⟩
theorem DN (p:ay) (n:Int):AC Tryz.prog T aV 101 [aC p,.int n] [] (.tup [encS (dV p n).1,.int (dV p n).2]) []:=by
 refine aA hT Tryz.func101 rfl rfl (Nat.le_of_ble_eq_true rfl) ?_;refine sg rfl ?_;refine sq (sq (rgs [CG.pure (.bool (fE p))] rfl ?_ ?_))
 ·have hq:=tV p;exact au
 refine cd rfl (fun h1=>?_) (fun h1=>?_)
 ·have hr:fE p=false:=by simpa using h1
  refine sg rfl ?_;refine WP.ret ?_;change Fin ..;exact vI hT rfl rfl rfl (ah (by rw [dV,if_pos hr];exact zeroS)) (by rw [dV,if_pos hr])
 ·have hr:fE p=true:=by simpa using h1
  have hp:=o9 hr;refine sk (sq (sq (rgs [CG.pure (.bool (decide (0≤n∧n≤4096)))] rfl ?_ ?_)))
  ·have hq:=xg n;exact au
  refine cd rfl (fun h3=>?_) (fun h3=>?_)
  ·have hf:¬ (0≤n∧n≤4096):=by simp at h3;omega
   refine sg rfl ?_;refine WP.ret ?_;change Fin ..;exact vI hT rfl rfl rfl (ah (by rw [dV,if_neg (by simp [hr]),if_pos hf];exact zeroS)) (by rw [dV,if_neg (by simp [hr]),if_pos hf])
  ·have hf:0≤n∧n≤4096:=by simpa using h3
   obtain ⟨k,rfl⟩:=Int.eq_ofNat_of_zero_le hf.1;have hvl:=hp.vars
   have e1:(T 62).zero.put [4] (.int 1)=encS { st0 with count:=1,vars:=nT p 0}:=by rw [zeroS,wR];rfl
   refine sk (sq (rg [] rfl ?_));refine sq (sq (rg [] rfl ?_));refine bk ?_;refine WP.loop (α:=Nat) (fun i=>aP [(1,.int k),(2,.rp 26 (aC p)),(4,.ptr (.s 4 0) 1 0 []),(6,.ptr (.s 6 0) 1 0 []),(19,rowP 116 Jq Px p.vars),(20,.int p.vars.length),(21,.int i)] [(.s 4 0,.cells ⟨62,1,fun _=>(T 62).zero,0⟩),(.s 6 0,.cells ⟨62,1,fun _=>encS { st0 with count:=1,vars:=nT p i},0⟩)]) (fun i=>i≤p.vars.length) (fun i=>p.vars.length - i) ?_ ?_
   ·refine ⟨0,?_,?_⟩
    ·exact Nat.zero_le _
    ·refine em [(.s 2 0,1)] ⟨sF,tt⟩ ⟨cq,rq,cq,cq,cq,cq,cq,tt⟩ ⟨obs rfl,obs rfl (hg:=q0 (ah e1)),tt⟩
   ·rintro i hi;refine sg rfl ?_;refine sq ?_;refine cd rfl (fun h7=>?_) (fun h7=>?_)
    ·have hil:i<p.vars.length:=by simp [-List.getD_eq_getElem?_getD]at h7;omega
     refine sk (sq (bk (sq (rgs [] rfl ?_ ?_))))
     ·simp [-List.getD_eq_getElem?_getD,aj,under];omega
     refine rgs [] rfl ?_ ?_
     ·simp [-List.getD_eq_getElem?_getD,aj,under];omega
     refine rg [] rfl ?_;refine ⟨i+1,?_,?_,?_⟩
     ·exact hil
     ·refine em [] trivial ⟨cq,cq,cq,cq,cq,cq,cq,tt⟩ ⟨obs rfl,obs rfl (hg:=q0 (ah ((D8 _ (by show _<(nT p i).length;rw [wZ];omega)).trans (by simp only [Int.toNat_natCast];rw [Gf (by omega)])))),tt⟩
     ·(try simp only []);first | omega | grind
    ·have hil:i=p.vars.length:=by simp [-List.getD_eq_getElem?_getD]at h7;omega
     subst hil;have e2:(T 59).zero.put [0] (.int 1)=bH live0:=by rw [DF];exact fQ _ _
     refine xt (sq (rgs [CG.pure (bH (BF (bn p 0) k live0))] rfl ?_ ?_))
     ·have hq:=wL p live0 k hp ⟨by decide,by have:=hp.funcs;show (0:Int)<_;omega⟩ (Qx hp) (by omega);rw [← e2]at hq;exact au
     refine sg rfl ?_;refine WP.ret ?_;change Fin ..;refine vI hT rfl rfl rfl (ah ?_) (by rw [dV,if_neg (by simp [hr]),if_neg (by simp;omega)]);rw [dV,if_neg (by simp [hr]),if_neg (by simp;omega)];exact yh (by show 0<6;omega) rfl
def fU (p:ay) (s:PSt) (g n:Int):PSt×Int :=
 if fE p=false then (st0,3)else if ¬ jf p s then (st0,4)else if ¬ ((0≤g∧g<6)∧(0≤n∧n≤4096))then (st0,1)else if s.count≤g then (st0,9)else
 if (goI s g).status=1∨(goI s g).status=5 then ({ s with gos:=s.gos.set g.toNat (BF (jv p (goI s g)) n.toNat { goI s g with status:=1}) },0)else (s,0)
theorem Hw (p:ay) (s:PSt) (g n:Int) (hs:OkS s):AC Tryz.prog T aV 234 [aC p,encS s,.int g,.int n] [] (.tup [encS (fU p s g n).1,.int (fU p s g n).2]) []:=by
 refine aA hT Tryz.func234 rfl rfl (Nat.le_of_ble_eq_true rfl) ?_;refine sg rfl ?_;refine sq (sq ?_);refine WP.ent (st':=aP [(4,.rp 26 (aC p)),(2,.int g),(3,.int n),(5,.ptr (.s 5 0) 1 0 []),(8,.ptr (.s 8 0) 1 0 [])] [(.s 5 0,.cells ⟨62,1,fun _=>encS s,0⟩),(.s 8 0,.cells ⟨62,1,fun _=>(T 62).zero,0⟩)]) (em [(.s 4 0,1)] ⟨sF,tt⟩ ⟨rq,cq,cq,cq,cq,tt⟩ ⟨obs rfl,obs rfl,tt⟩) ?_;refine rgs [CG.pure (.bool (fE p))] rfl ?_ ?_
 ·have hq:=tV p;exact au
 refine cd rfl (fun h1=>?_) (fun h1=>?_)
 ·have hr:fE p=false:=by simpa using h1
  refine sg rfl ?_;refine WP.ret ?_;change Fin ..;exact vI hT rfl rfl rfl (ah (by rw [fU,if_pos hr];exact zeroS)) (by rw [fU,if_pos hr])
 ·have hr:fE p=true:=by simpa using h1
  have hp:=o9 hr;have hr0:¬ fE p=false:=by simp [hr]
  refine sk (sq (sq (rgs [CG.pure (.bool (decide (jf p s)))] rfl ?_ ?_)))
  ·have hq:=DI p s hs;exact au
  refine cd rfl (fun h3=>?_) (fun h3=>?_)
  ·have hv:¬ jf p s:=by simpa using h3
   refine sg rfl ?_;refine WP.ret ?_;change Fin ..;exact vI hT rfl rfl rfl (ah (by rw [fU,if_neg hr0,if_pos hv];exact zeroS)) (by rw [fU,if_neg hr0,if_pos hv])
  ·have hv:jf p s:=by simpa using h3
   have hv0:¬ ¬ jf p s:=fun h=>h hv;refine sk (sq (sq (rgs [CG.pure (.bool (decide (0≤n∧n≤4096)))] rfl ?_ ?_)))
   ·have hq:=xg n;exact au
   refine cd rfl (fun h5=>?_) (fun h5=>?_)
   ·have ha:¬ ((0≤g∧g<6)∧(0≤n∧n≤4096)):=by simp only [bor]at h5;simp at h5;omega
    refine sg rfl ?_;refine WP.ret ?_;change Fin ..;exact vI hT rfl rfl rfl (ah (by rw [fU,if_neg hr0,if_neg hv0,if_pos ha];exact zeroS)) (by rw [fU,if_neg hr0,if_neg hv0,if_pos ha])
   ·have ha:(0≤g∧g<6)∧(0≤n∧n≤4096):=by simp only [bor]at h5;simp at h5;omega
    have ha0:¬ ¬ ((0≤g∧g<6)∧(0≤n∧n≤4096)):=fun h=>h ha;refine sk (sq (sq (rg [] rfl ?_)));refine cd rfl (fun h7=>?_) (fun h7=>?_)
    ·have hc:s.count≤g:=by simpa using h7
     refine sg rfl ?_;refine WP.ret ?_;change Fin ..;exact vI hT rfl rfl rfl (ah (by rw [fU,if_neg hr0,if_neg hv0,if_neg ha0,if_pos hc];exact zeroS)) (by rw [fU,if_neg hr0,if_neg hv0,if_neg ha0,if_pos hc])
    ·have hc:¬ s.count≤g:=by simpa using h7
     have hgl:=hs.gos;refine sk (sq (sq (rgs [] rfl ?_ ?_)))
     ·simp [-List.getD_eq_getElem?_getD,aj,under];omega
     refine sg rfl ?_;refine cd rfl (fun h10=>?_) (fun h10=>?_)
     ·have hst:(goI s g).status=1∨(goI s g).status=5:=by simp only [bor]at h10;simp [-List.getD_eq_getElem?_getD]at h10;exact h10
      have hfit:=(hv.2.2.2.2.1 g.toNat (by omega)).1 (by omega);have e1:(bH (goI s g)).put [0] (.int 1)=bH { goI s g with status:=1}:=fQ _ _
      obtain ⟨k,rfl⟩:=Int.eq_ofNat_of_zero_le ha.2.1;refine sg rfl ?_;refine rgs [CG.pure (bH (BF (jv p (goI s g)) k { goI s g with status:=1}))] rfl ?_ ?_
      ·have hq:=wL p { goI s g with status:=1} k hp hfit.2.1 ⟨jB hs _,hfit.2.2.1⟩ (by omega);rw [← e1]at hq;exact au
      refine sg rfl ?_;refine WP.ret ?_;change Fin ..;refine vI hT rfl rfl rfl (ah ?_) (by rw [fU,if_neg hr0,if_neg hv0,if_neg ha0,if_neg hc,if_pos hst]);rw [fU,if_neg hr0,if_neg hv0,if_neg ha0,if_neg hc,if_pos hst];exact yh (by omega) (Qh _ _)
     ·have hst:¬ ((goI s g).status=1∨(goI s g).status=5):=by simp only [bor]at h10;simp [-List.getD_eq_getElem?_getD]at h10;exact fun h=>h.elim h10.1 h10.2
      refine sk (sq (rg [] rfl ?_));refine WP.ret ?_;change Fin ..;refine vI hT rfl rfl rfl (ah ?_) (by rw [fU,if_neg hr0,if_neg hv0,if_neg ha0,if_neg hc,if_neg hst]);rw [fU,if_neg hr0,if_neg hv0,if_neg ha0,if_neg hc,if_neg hst];rfl
theorem fK {α:Type} (l:List α) (x:α):(l++[x]).length=l.length+1:=by simp
def oM (g:PGo):Bool:=g.status==1||g.status==2
def jL (s:PSt):Nat→List Int
 | 0=>[]
 | k+1=>jL s k++(if oM (s.gos.getD k go0)=true then [(k:Int)]else [])
abbrev fJ (s:PSt):List Int:=jL s 6
theorem oH (s:PSt):∀ k,(jL s k).length≤k
 | 0=>Nat.le_refl _
 | k+1=>by have:=oH s k;rw [jL,List.length_append];split <;> simp <;> omega
theorem oG {s:PSt} {x:Int}:∀ {k:Nat},x∈jL s k ↔ ∃ j:Nat,j<k∧x=j∧oM (s.gos.getD j go0)=true
 | 0=>by simp [jL]
 | k+1=>by
  rw [jL,List.mem_append,oG];constructor
  ·rintro (⟨j,h1,h2,h3⟩ | h)
   ·exact ⟨j,by omega,h2,h3⟩
   ·split at h
    ·rename_i hb;exact ⟨k,by omega,by simpa using h,hb⟩
    ·cases h
  ·rintro ⟨j,h1,h2,h3⟩;by_cases e:j=k
   ·subst e;exact .inr (by rw [if_pos h3];simpa using h2)
   ·exact .inl ⟨j,by omega,h2,h3⟩
theorem Oz (s:PSt):AC Tryz.prog T aV 115 [encS s] [] (ints false (fJ s)) []:=by
 refine aA hT Tryz.func115 rfl rfl (Nat.le_of_ble_eq_true rfl) ?_;refine sg rfl ?_;refine sg rfl ?_;refine sq (sq (rg [] rfl ?_));refine bk ?_;refine WP.loop (α:=Nat) (fun v=>aP [(3,.own (.s 23 0) (jL s v).length 0 (jL s v).length none),(7,BA 60 6 bH go0 s.gos),(8,.int v)] [(.s 23 0,qE 3 .i64 (jL s v))]) (fun v=>v≤6) (fun v=>6 - v) ?_ ?_
 ·refine ⟨0,?_,?_⟩
  ·omega
  ·refine em [] trivial ⟨⟨rfl,_,rfl,jc⟩,cq,cq,tt⟩ ⟨⟨fun _ _=>rfl,.inr ⟨rfl,3,_,rfl,by decide⟩⟩,tt⟩
 ·rintro v hv6;refine sg rfl ?_;refine sq ?_;refine cd rfl (fun h3=>?_) (fun h3=>?_)
  ·have hvl:v<6:=by simp [-List.getD_eq_getElem?_getD]at h3;omega
   have hlen:=oH s v;refine sk (sq (bk (sq (rgs [] rfl ?_ ?_))))
   ·simp [-List.getD_eq_getElem?_getD,aj,under];omega
   refine sg rfl ?_;refine cd rfl (fun h5=>?_) (fun h5=>?_)
   ·have hb:oM (s.gos.getD v go0)=true:=by simp only [bor,Int.toNat_natCast]at h5;exact h5
    refine rgs [] rfl ?_ ?_
    ·have hbt:(T 3).bytes=8:=rfl;simp [aj,under,hbt];omega
    refine rg [] rfl ?_;refine ⟨v+1,?_,?_,?_⟩
    ·omega
    ·refine em [] trivial ⟨⟨rfl,_,rfl,ah (by rw [jL,if_pos hb,fK])⟩,cq,cq,tt⟩ ⟨pq rfl rfl (by rw [jL,if_pos hb,fK]) rfl rfl (by rw [jL,if_pos hb];exact app1 (z:=(T 3).zero) rfl (fun q hq=>rfl)),tt⟩
    ·(try simp only []);first | omega | grind
   ·have hb:oM (s.gos.getD v go0)=false:=by simp only [bor,Int.toNat_natCast]at h5;exact h5
    refine sk (rg [] rfl ?_);refine ⟨v+1,?_,?_,?_⟩
    ·omega
    ·refine em [] trivial ⟨⟨rfl,_,rfl,ah (by rw [jL,if_neg (by rw [hb];decide),List.append_nil])⟩,cq,cq,tt⟩ ⟨pq rfl rfl (by rw [jL,if_neg (by rw [hb];decide),List.append_nil]) rfl rfl (fun q hq=>by rw [jL,if_neg (by rw [hb];decide),List.append_nil]),tt⟩
    ·(try simp only []);first | omega | grind
  ·have hvl:v=6:=by simp [-List.getD_eq_getElem?_getD]at h3;omega
   subst hvl;refine xt (sq (rg [] rfl ?_));refine WP.ret ?_;change Fin ..;refine aH hT [(.s 23 0,(fJ s).length)] (ts:=[(2,ints false (fJ s))]) (l:=[ints false (fJ s)]) ⟨⟨_,rfl,Nat.le_refl _⟩,tt⟩ ⟨⟨rfl,_,rfl,?_⟩,tt⟩ trivial rfl rfl rfl;exact jm rfl rfl rfl (fun h=>by cases h) (by simp [eH,aN]) (fun q hq=>by rw [Nat.zero_add];exact ⟨rfl,AEq.refl _⟩)
theorem xR (s:PSt) (g:Int) (hg:0≤g∧g<6):AC Tryz.prog T aV 158 [encS s,.int g] [] (.bool (oM (goI s g))) []:=by
 refine aA hT Tryz.func158 rfl rfl (Nat.le_of_ble_eq_true rfl) ?_;refine sg rfl ?_;refine sq ?_;refine WP.ent (st':=aP [(2,.rp 62 (encS s)),(1,.int g)] []) (em [(.s 2 0,1)] ⟨sF,tt⟩ ⟨rq,cq,tt⟩ trivial) ?_;refine rgs [] rfl ?_ ?_
 ·simp [-List.getD_eq_getElem?_getD,aj,under];omega
 refine WP.ret ?_;change Fin ..;exact fin1 hT (by rfl) (by rw [bor];rfl)
structure eX (p:ay) (s:PSt) (g:Int):Prop where
 ok:OkS s
 valid:jf p s
 live:oM (goI s g)=true
 pos:0≤g∧g<6
theorem eX.prog {p:ay} {s:PSt} {g:Int} (h:eX p s g):wG p:=o9 h.valid.1
theorem eX.lt {p:ay} {s:PSt} {g:Int} (h:eX p s g):g<s.count:=by
 rcases Int.lt_or_le g s.count with h1 | h1
 ·exact h1
 ·have h2:=(h.valid.2.2.2.2.1 g.toNat (by have:=h.pos;omega)).2 (by have:=h.pos;omega);have h3:=h.live
  unfold goI at h3;rw [h2]at h3;cases h3
theorem eX.fit {p:ay} {s:PSt} {g:Int} (h:eX p s g):Ny p (goI s g):=(h.valid.2.2.2.2.1 g.toNat (by have:=h.pos;omega)).1 (by have:=h.pos;have:=h.lt;omega)
theorem eX.fn {p:ay} {s:PSt} {g:Int} (h:eX p s g):Gz p (jv p (goI s g)):=h.prog.fn _ (by
 have:=h.fit.2.1;unfold eP at this;rw [jv,List.getD_eq_getElem?_getD,List.getElem?_eq_getElem (show (goI s g).func.toNat<p.funcs.length by omega)];exact List.getElem_mem _)
theorem eX.ins {p:ay} {s:PSt} {g:Int} (h:eX p s g):MW p (jv p (goI s g)) (insOf p (goI s g)):=IW h.fn h.fit.2.2.1
theorem Em {p:ay} {s:PSt} {g:Int}:∀ {c:Nat},GH p s g c≠0 → ∃ k,k<c∧k<p.chans.length∧(fD s k).offer≠0∧(fD s k).frm=g
 | c+1,h=>by
  rw [GH]at h;split at h
  ·rename_i e;exact ⟨c,by omega,e.1,e.2.1,e.2.2⟩
  ·obtain ⟨k,h1,h2⟩:=Em (c:=c) (by simpa using h);exact ⟨k,by omega,h2⟩
theorem eX.wait {p:ay} {s:PSt} {g:Int} (h:eX p s g) (hw:(goI s g).status=2):(insOf p (goI s g)).op=58 ∧ ∃ k:Nat,k<p.chans.length∧(insOf p (goI s g)).a=k∧(fD s k).offer≠0∧(fD s k).frm=g:=by
 have hp:=h.pos;have h1:=h.valid.2.2.2.2.2.2 g.toNat (by omega) hw
 obtain ⟨k,h2,h3,h4,h5⟩:=Em (c:=4) (by rw [h1];decide);have h6:=((h.valid.2.2.2.2.2.1 k h2).1 h3).2.2.2.2.2.2 h4
 rw [h5]at h6;rw [Int.toNat_of_nonneg hp.1]at h6;exact ⟨h6.2.2.2.1,k,h3,h6.2.2.2.2,h4,by rw [h5];exact Int.toNat_of_nonneg hp.1⟩
def atI (p:ay) (s:PSt) (g:Int):kE:=if (goI s g).status=2 then { insOf p (goI s g)with op:=66}else insOf p (goI s g)
theorem Ie (x:kE) (n:Int):(aQ x).put [0] (.int n)=aQ { x with op:=n}:=aT (Nat.le_of_ble_eq_true rfl)
theorem MK (p:ay) (s:PSt) (g:Int) (h:eX p s g):AC Tryz.prog T aV 131 [aC p,encS s,.int g] [] (aQ (atI p s g)) []:=by
 refine aA hT Tryz.func131 rfl rfl (Nat.le_of_ble_eq_true rfl) ?_;refine sg rfl ?_;refine sq ?_;refine WP.ent (st':=aP [(3,.rp 26 (aC p)),(4,.rp 62 (encS s)),(2,.int g),(6,.ptr (.s 6 0) 1 0 [])] [(.s 6 0,.cells ⟨120,1,fun _=>(T 120).zero,0⟩)]) (em [(.s 3 0,1),(.s 4 0,1)] ⟨sF,sF,tt⟩ ⟨rq,rq,cq,cq,tt⟩ ⟨obs rfl,tt⟩) ?_;refine drs [] rfl ?_ ?_
 ·have h1:=h.pos;have h2:=h.fit.2.1;have h3:=h.fit.2.2.1
  simp only [eP,jv,goI]at h2 h3;simp [-List.getD_eq_getElem?_getD,aj,under];omega
 refine sq (sq (rgs [] rfl ?_ ?_))
 ·have h1:=h.pos;simp [-List.getD_eq_getElem?_getD,aj,under];omega
 refine cd rfl (fun h2=>?_) (fun h2=>?_)
 ·have hw:(goI s g).status=2:=by simp [-List.getD_eq_getElem?_getD]at h2;exact h2
  refine rg [] rfl ?_;refine sg rfl ?_;refine WP.ret ?_;change Fin ..;exact fH hT rfl rfl rfl rfl rfl (ah (by rw [atI,if_pos hw];exact Ie _ _)) rfl rfl rfl
 ·have hw:¬ (goI s g).status=2:=by simp [-List.getD_eq_getElem?_getD]at h2;exact h2
  refine sk (sq (rg [] rfl ?_));refine WP.ret ?_;change Fin ..;exact fH hT rfl rfl rfl rfl rfl (ah (by rw [atI,if_neg hw];rfl)) rfl rfl rfl
def ng (p:ay) (s:PSt) (c:Int):Bool:=(chI s c).closed||(decide (p.chans.getD c.toNat 0>0)&&decide ((chI s c).len<p.chans.getD c.toNat 0))||(p.chans.getD c.toNat 0==0&&(chI s c).offer==0)
def FH (s:PSt) (c:Int):Bool:=decide ((chI s c).len>0)||(chI s c).closed||(chI s c).offer==1
theorem DV (p:ay) (s:PSt) (c:Int) (hc:eP c p.chans.length) (h4:p.chans.length≤4):AC Tryz.prog T aV 166 [aC p,encS s,.int c] [] (.bool (ng p s c)) []:=by
 refine aA hT Tryz.func166 rfl rfl (Nat.le_of_ble_eq_true rfl) ?_;unfold eP at hc;refine sg rfl ?_;refine sq ?_;refine WP.ent (st':=aP [(3,.rp 26 (aC p)),(4,.rp 62 (encS s)),(2,.int c)] []) (em [(.s 3 0,1),(.s 4 0,1)] ⟨sF,sF,tt⟩ ⟨rq,rq,cq,tt⟩ trivial) ?_;refine rgs [] rfl ?_ ?_
 ·simp [-List.getD_eq_getElem?_getD,aj,under];omega
 refine sq (drs [] rfl ?_ ?_)
 ·exact au
 refine WP.ret ?_;change Fin ..;exact fin1 hT (by rfl) (by simp only [bor,band];rfl)
theorem uz (s:PSt) (c:Int) (hc:0≤c∧c<4):AC Tryz.prog T aV 167 [encS s,.int c] [] (.bool (FH s c)) []:=by
 refine aA hT Tryz.func167 rfl rfl (Nat.le_of_ble_eq_true rfl) ?_;refine sg rfl ?_;refine sq ?_;refine WP.ent (st':=aP [(2,.rp 62 (encS s)),(1,.int c)] []) (em [(.s 2 0,1)] ⟨sF,tt⟩ ⟨rq,cq,tt⟩ trivial) ?_;refine rgs [] rfl ?_ ?_
 ·simp [-List.getD_eq_getElem?_getD,aj,under];omega
 refine sg rfl ?_;refine WP.ret ?_;change Fin ..;exact fin1 hT (by rfl) (by simp only [bor,band];rfl)
def kU (s:PSt) (g k:Int):Bool:=decide (0≤k∧k<s.count∧k≠g)
theorem xO (s:PSt) (g k:Int):AC Tryz.prog T aV 220 [encS s,.int g,.int k] [] (.bool (kU s g k)) []:=by
 refine aA hT Tryz.func220 rfl rfl (Nat.le_of_ble_eq_true rfl) ?_;refine sg rfl ?_;refine sg rfl ?_;refine WP.ret ?_;change Fin ..;refine fin1 hT (by rfl) ?_;simp only [band];rw [Bool.eq_iff_iff,kU];simp;omega
def mG (p:ay) (s:PSt) (g:Int):Bool :=
 if (atI p s g).op=54 then mD s (atI p s g).a==dY (goI s g) (atI p s g).b else if (atI p s g).op=55 then qI s (atI p s g).a==0 else if (atI p s g).op=58 then ng p s (atI p s g).a else
 if (atI p s g).op=59 then FH s (atI p s g).b else if (atI p s g).op=66 then (chI s (atI p s g).a).offer != 1 else
 if (atI p s g).op=63 then (!kU s g (dY (goI s g) (atI p s g).a) || !oM (goI s (dY (goI s g) (atI p s g).a)))else PU (atI p s g).op
structure AtP (p:ay) (s:PSt) (g:Int):Prop where
 await:(atI p s g).op=54→(0≤(atI p s g).a∧(atI p s g).a<8)∧(0≤(atI p s g).b∧(atI p s g).b<8)
 lock:(atI p s g).op=55∨(atI p s g).op=56→0≤(atI p s g).a∧(atI p s g).a<4
 send:(atI p s g).op=58∨(atI p s g).op=60∨(atI p s g).op=66→eP (atI p s g).a p.chans.length
 recv:(atI p s g).op=59→eP (atI p s g).b p.chans.length
 join:(atI p s g).op=63∨(atI p s g).op=65→0≤(atI p s g).a∧(atI p s g).a<8
 ins:(atI p s g).op≠66→atI p s g=insOf p (goI s g)
theorem eX.at {p:ay} {s:PSt} {g:Int} (h:eX p s g):AtP p s g:=by
 have hp:=h.prog;have hv:=hp.vars;have hl:=hp.locks
 have hr:=h.fn.regs;have hi:=h.ins
 by_cases hw:(goI s g).status=2
 ·obtain ⟨h1,k,h2,h3,_⟩:=h.wait hw;have e:(atI p s g).op=66:=by rw [atI,if_pos hw]
  have ea:(atI p s g).a=k:=by rw [atI,if_pos hw];exact h3
  refine ⟨fun h=>by omega,fun h=>by omega,fun _=>?_,fun h=>by omega,fun h=>by omega,fun h=>absurd e h⟩;unfold eP;omega
 ·have e:atI p s g=insOf p (goI s g):=by rw [atI,if_neg hw]
  have h66:(insOf p (goI s g)).op≠66:=by
   intro h6;have:=hi.op
   rw [h6]at this;revert this;decide
  rw [← e]at hi h66;refine ⟨fun h=>?_,fun h=>?_,fun h=>?_,fun h=>(hi.recv h).2.1,fun h=>?_,fun _=>e⟩
  ·have:=hi.store (.inr h);unfold lJ eP at this;omega
  ·have:=hi.lock h;omega
  ·rcases h with h | h | h
   ·exact (hi.send h).1
   ·exact hi.close h
   ·exact absurd h h66
  ·have:=hi.const (by omega);unfold lJ at this;omega
theorem GX (p:ay) (s:PSt) (g:Int) (h:eX p s g):AC Tryz.prog T aV 164 [aC p,encS s,.int g] [] (.bool (mG p s g)) []:=by
 refine aA hT Tryz.func164 rfl rfl (Nat.le_of_ble_eq_true rfl) ?_;have ha:=h.at
 have h6:=h.pos;have h4:=h.prog.chans
 have hc6:=h.valid.2.1.2;refine sg rfl ?_;refine sq ?_;refine WP.ent (st':=aP [(3,.rp 26 (aC p)),(4,.rp 62 (encS s)),(2,.int g)] []) (em [(.s 3 0,1),(.s 4 0,1)] ⟨sF,sF,tt⟩ ⟨rq,rq,cq,tt⟩ trivial) ?_;refine rgs [CG.pure (aQ (atI p s g))] rfl ?_ ?_
 ·have hq:=MK p s g h;exact au
 refine sq ?_;refine WP.ent (st':=aP [(7,.rp 120 (aQ (atI p s g))),(2,.int g),(3,.rp 26 (aC p)),(4,.rp 62 (encS s))] []) (em [(.s 7 0,1)] ⟨sF,tt⟩ ⟨rq,cq,cq,cq,tt⟩ trivial) ?_;refine rgs [] rfl ?_ ?_
 ·simp [-List.getD_eq_getElem?_getD,aj,under];omega
 refine sq (sq ?_);refine WP.ent (st':=aP [(8,.rp 52 (mQ 52 8 .i64 (goI s g).regs)),(2,.int g),(3,.rp 26 (aC p)),(4,.rp 62 (encS s)),(7,.rp 120 (aQ (atI p s g)))] []) (em [(.s 8 0,1)] ⟨sF,tt⟩ ⟨rq,cq,cq,cq,cq,tt⟩ trivial) ?_;refine rg [] rfl ?_;refine bk (sq (rg [] rfl ?_));refine cd rfl (fun h4=>?_) (fun h4=>?_)
 ·have e4:(atI p s g).op=54:=by simpa using h4
  have:=ha.await e4;refine sq (drs [] rfl ?_ ?_)
  ·simp [-List.getD_eq_getElem?_getD,aj,under];omega
  exact WP.ret (fin1 hT (by rfl) (by rw [mG,if_pos e4]))
 ·have e4:(atI p s g).op≠54:=by simpa using h4
  refine sg rfl ?_;refine cd rfl (fun h6=>?_) (fun h6=>?_)
  ·have e6:(atI p s g).op=55:=by simpa using h6
   have:=ha.lock (.inl e6);refine sq (rgs [] rfl ?_ ?_)
   ·simp [-List.getD_eq_getElem?_getD,aj,under];omega
   exact WP.ret (fin1 hT (by rfl) (by rw [mG,if_neg e4,if_pos e6]))
  ·have e6:(atI p s g).op≠55:=by simpa using h6
   refine sg rfl ?_;refine cd rfl (fun h8=>?_) (fun h8=>?_)
   ·have e8:(atI p s g).op=58:=by simpa using h8
    refine sq (rgs [CG.pure (.bool (ng p s (atI p s g).a))] rfl ?_ ?_)
    ·have hq:=DV p s (atI p s g).a (ha.send (.inl e8)) h.prog.chans;exact au
    exact WP.ret (fin1 hT (by rfl) (by rw [mG,if_neg e4,if_neg e6,if_pos e8]))
   ·have e8:(atI p s g).op≠58:=by simpa using h8
    refine sg rfl ?_;refine cd rfl (fun h10=>?_) (fun h10=>?_)
    ·have e10:(atI p s g).op=59:=by simpa using h10
     have hb:=ha.recv e10;unfold eP at hb;refine sq (rgs [CG.pure (.bool (FH s (atI p s g).b))] rfl ?_ ?_)
     ·have hq:=uz s (atI p s g).b (by have:=h.prog.chans;omega);exact au
     exact WP.ret (fin1 hT (by rfl) (by rw [mG,if_neg e4,if_neg e6,if_neg e8,if_pos e10]))
    ·have e10:(atI p s g).op≠59:=by simpa using h10
     refine sg rfl ?_;refine cd rfl (fun h12=>?_) (fun h12=>?_)
     ·have e12:(atI p s g).op=66:=by simpa using h12
      have hb:=ha.send (.inr (.inr e12));unfold eP at hb;have:=h.prog.chans
      refine sq (rgs [] rfl ?_ ?_)
      ·simp [-List.getD_eq_getElem?_getD,aj,under];omega
      exact WP.ret (fin1 hT (by rfl) (by rw [mG,if_neg e4,if_neg e6,if_neg e8,if_neg e10,if_pos e12]))
     ·have e12:(atI p s g).op≠66:=by simpa using h12
      refine sg rfl ?_;refine cd rfl (fun h14=>?_) (fun h14=>?_)
      ·have e14:(atI p s g).op=63:=by simpa using h14
       have hb:=ha.join (.inl e14);refine sq (drs [CG.pure (.bool (kU s g (dY (goI s g) (atI p s g).a))),CG.pure (.bool (oM (goI s (dY (goI s g) (atI p s g).a))))] rfl ?_ ?_)
       ·have hq:=xO s g (dY (goI s g) (atI p s g).a);have hq2:kU s g (dY (goI s g) (atI p s g).a)=true→_:=fun e=>xR s (dY (goI s g) (atI p s g).a) (by simp only [kU,decide_eq_true_eq]at e;omega)
        simp only [aj,under,CG.pure]
        repeat' with_reducible refine And.intro ?_ ?_
        all_goals (try with_reducible intros)
        all_goals (first | exact trivial | assumption | omega | exact hq | (refine hq2 ?_;simp_all;done) | (simp_all;done))
       exact WP.ret (fin1 hT (by rfl) (by rw [mG,if_neg e4,if_neg e6,if_neg e8,if_neg e10,if_neg e12,if_pos e14,bor]))
      ·have e14:(atI p s g).op≠63:=by simpa using h14
       refine sk (sq (rgs [CG.pure (.bool (PU (atI p s g).op))] rfl ?_ ?_))
       ·have hq:=BX (atI p s g).op;exact au
       exact WP.ret (fin1 hT (by rfl) (by rw [mG,if_neg e4,if_neg e6,if_neg e8,if_neg e10,if_neg e12,if_neg e14]))
def kG (l:List Int) (k:Int) (b:Bool):List Int:=if b then l++[k]else l
def Lu (l:List Int):List Ob:=[.cells ⟨23,1,fun _ => .own (.b 1) l.length 0 l.length none,0⟩,qE 3 .i64 l]
theorem I4 (l:List Int) (k:Int) (b:Bool) (hl:l.length≤100):AC Tryz.prog T aV 165 [.int k,.bool b,.ptr (.b 0) 1 0 []] [.cells ⟨23,1,fun _ => .own (.b 1) l.length 0 l.length none,0⟩,qE 3 .i64 l] (.tup []) [.cells ⟨23,1,fun _ => .own (.b 1) (kG l k b).length 0 (kG l k b).length none,0⟩,qE 3 .i64 (kG l k b)]:=by
 refine aA hT Tryz.func165 rfl rfl (Nat.le_of_ble_eq_true rfl) ?_;refine sg rfl ?_;refine cd rfl (fun h0=>?_) (fun h0=>?_)
 ·refine rgs [] rfl ?_ ?_
  ·have hbt:(T 3).bytes=8:=rfl;simp [aj,under,hbt];omega
  change Fin ..
  first
  | (refine aH hT [] (ts:=[]) (l:=[]) trivial trivial ⟨obs rfl (hg:=q0 (ah (by rw [kG,if_pos h0,fK];rfl))),pq rfl rfl (by rw [kG,if_pos h0,fK]) rfl rfl (by rw [kG,if_pos h0];exact app1 (z:=(T 3).zero) rfl (fun q hq=>rfl)),tt⟩ rfl rfl rfl)
  | (
   have e:kG l k b=l:=by rw [kG,h0];rfl
   rw [e];exact aH hT [] (ts:=[]) (l:=[]) trivial trivial ⟨obs rfl,pq rfl rfl rfl rfl rfl (fun q hq=>rfl),tt⟩ rfl rfl rfl)
 ·refine sk ?_;change Fin ..
  first
  | (refine aH hT [] (ts:=[]) (l:=[]) trivial trivial ⟨obs rfl (hg:=q0 (ah (by rw [kG,if_pos h0,fK];rfl))),pq rfl rfl (by rw [kG,if_pos h0,fK]) rfl rfl (by rw [kG,if_pos h0];exact app1 (z:=(T 3).zero) rfl (fun q hq=>rfl)),tt⟩ rfl rfl rfl)
  | (
   have e:kG l k b=l:=by rw [kG,h0];rfl
   rw [e];exact aH hT [] (ts:=[]) (l:=[]) trivial trivial ⟨obs rfl,pq rfl rfl rfl rfl rfl (fun q hq=>rfl),tt⟩ rfl rfl rfl)
def yU (p:ay) (s:PSt) (c:vU):Bool:=(c.send&&ng p s c.chan)||(!c.send&&FH s c.chan)
def fF (p:ay) (s:PSt) (q:y8):Nat→List Int
 | 0=>[]
 | k+1=>kG (fF p s q k) k (yU p s (aG q k))
theorem rG (p:ay) (s:PSt) (q:y8):∀ k,(fF p s q k).length≤k
 | 0=>Nat.le_refl _
 | k+1=>by have:=rG p s q k;rw [fF,kG];split <;> simp <;> omega
abbrev dS (p:ay) (s:PSt) (g:Int):y8:=aX (jv p (goI s g)) (atI p s g).a.toNat
def lI (p:ay) (s:PSt) (g:Int):List Int :=
 if (atI p s g).op≠61 then (if mG p s g then [0]else [])else
 kG (fF p s (dS p s g) (dS p s g).cases.length) (dS p s g).cases.length ((fF p s (dS p s g) (dS p s g).cases.length).length==0&&(dS p s g).els != -1)
theorem eX.sel {p:ay} {s:PSt} {g:Int} (h:eX p s g) (e:(atI p s g).op=61):eP (atI p s g).a (jv p (goI s g)).sels.length∧QW p (jv p (goI s g)) (dS p s g):=by
 have h1:=h.at.ins (by rw [e];decide);have h2:eP (atI p s g).a (jv p (goI s g)).sels.length:=by rw [h1];exact h.ins.sel (by rw [← h1];exact e)
 refine ⟨h2,?_⟩;unfold eP at h2;unfold dS aX;rw [List.getD_eq_getElem?_getD,List.getElem?_eq_getElem (show (atI p s g).a.toNat<(jv p (goI s g)).sels.length by omega)];exact h.fn.sel _ (List.getElem_mem _)
theorem E5 {p:ay} {s:PSt} {g:Int} (h:eX p s g):(lI p s g).length≤5:=by
 unfold lI;split
 ·split <;> simp
 ·rename_i e;have:=(h.sel (by simpa using e)).2.len
  have h2:=rG p s (dS p s g) (dS p s g).cases.length;rw [kG];split <;> simp [-List.getD_eq_getElem?_getD] <;> omega
theorem JK (p:ay) (s:PSt) (g:Int) (h:eX p s g):AC Tryz.prog T aV 116 [aC p,encS s,.int g] [] (ints false (lI p s g)) []:=by
 refine aA hT Tryz.func116 rfl rfl (Nat.le_of_ble_eq_true rfl) ?_;have h6:=h.pos
 have hc4:=h.prog.chans;refine sg rfl ?_;refine sq ?_;refine WP.ent (st':=aP [(3,.rp 26 (aC p)),(4,.rp 62 (encS s)),(2,.int g)] []) (em [(.s 3 0,1),(.s 4 0,1)] ⟨sF,sF,tt⟩ ⟨rq,rq,cq,tt⟩ trivial) ?_;refine rgs [CG.pure (aQ (atI p s g))] rfl ?_ ?_
 ·have hq:=MK p s g h;exact au
 refine sq (sq ?_);refine WP.ent (st':=aP [(7,.rp 120 (aQ (atI p s g))),(2,.int g),(3,.rp 26 (aC p)),(4,.rp 62 (encS s))] []) (em [(.s 7 0,1)] ⟨sF,tt⟩ ⟨rq,cq,cq,cq,tt⟩ trivial) ?_;refine rg [] rfl ?_;refine cd rfl (fun h2=>?_) (fun h2=>?_)
 ·have e61:(atI p s g).op≠61:=by simpa using h2
  refine sq (sq (rgs [CG.pure (.bool (mG p s g))] rfl ?_ ?_))
  ·have hq:=GX p s g h;exact au
  refine cd rfl (fun h3=>?_) (fun h3=>?_)
  ·refine sg rfl ?_;refine WP.ret ?_;change Fin ..;refine aH hT [] (ts:=[(6,ints false (lI p s g))]) (l:=[ints false (lI p s g)]) trivial ⟨⟨rfl,_,rfl,?_⟩,tt⟩ trivial rfl rfl rfl;have e:lI p s g=[0]:=by rw [lI,if_pos e61,if_pos h3]
   rw [e];exact qB (fun h=>by cases h) (fun i hi=>by obtain rfl:i=0:=Nat.lt_one_iff.1 hi;rfl)
  ·refine sk (sq (rg [] rfl ?_));refine WP.ret ?_;change Fin ..;refine aH hT [] (ts:=[(6,ints false (lI p s g))]) (l:=[ints false (lI p s g)]) trivial ⟨⟨rfl,_,rfl,?_⟩,tt⟩ trivial rfl rfl rfl;have e:lI p s g=[]:=by rw [lI,if_pos e61,if_neg (by rw [h3];decide)]
   rw [e];exact dX (by decide)
 ·have e61:(atI p s g).op=61:=by simpa using h2
  have hse:=h.sel e61;have hsl:=hse.2.len
  have hbn:=hse.1;have hb2:=h.fit.2.1
  refine sk (sq (rg [] rfl ?_));refine sq (drs [] rfl ?_ ?_)
  ·simp only [eP,jv,goI]at hbn hb2;simp [-List.getD_eq_getElem?_getD,aj,under];omega
  refine sq ?_;refine WP.ent (st':=aP [(9,.rp 103 (lF (dS p s g))),(3,.rp 26 (aC p)),(4,.rp 62 (encS s)),(8,.ptr (.s 8 0) 1 0 [])] [(.s 8 0,.cells ⟨23,1,fun _ => .nils,0⟩)]) (em [(.s 9 0,1)] ⟨sF,tt⟩ ⟨rq,cq,cq,cq,tt⟩ ⟨obs rfl,tt⟩) ?_;refine rg [] rfl ?_;refine sq (sq (rg [] rfl ?_));refine bk ?_;refine WP.loop (α:=Nat) (fun k=>aP [(3,.rp 26 (aC p)),(4,.rp 62 (encS s)),(8,.ptr (.s 8 0) 1 0 []),(9,.rp 103 (lF (dS p s g))),(10,.clo 165 [.ptr (.s 8 0) 1 0 []]),(41,rowP 215 pK Dy (dS p s g).cases),(42,.int (dS p s g).cases.length),(43,.int k)] [(.s 8 0,.cells ⟨23,1,fun _ => .own (.s 99 0) (fF p s (dS p s g) k).length 0 (fF p s (dS p s g) k).length none,0⟩),(.s 99 0,qE 3 .i64 (fF p s (dS p s g) k))]) (fun k=>k≤(dS p s g).cases.length) (fun k=>(dS p s g).cases.length - k) ?_ ?_
  ·refine ⟨0,?_,?_⟩
   ·exact Nat.zero_le _
   ·refine em [] trivial ⟨cq,cq,cq,cq,cq,cq,cq,cq,tt⟩ ⟨obs rfl (hg:=q0 jc),⟨fun _ _=>rfl,.inr ⟨rfl,3,_,rfl,by decide⟩⟩,tt⟩
  ·rintro k hk;have hcl:=rG p s (dS p s g) k
   refine sg rfl ?_;refine sq ?_;refine cd rfl (fun h10=>?_) (fun h10=>?_)
   ·have hkl:k<(dS p s g).cases.length:=by simp [-List.getD_eq_getElem?_getD]at h10;omega
    have hcp:=hse.2.case (aG (dS p s g) k) (by unfold aG;rw [List.getD_eq_getElem?_getD,List.getElem?_eq_getElem hkl];exact List.getElem_mem _);have hch:=hcp.chan
    refine sk (sq (bk (sq (rgs [] rfl ?_ ?_))))
    ·simp [-List.getD_eq_getElem?_getD,aj,under];omega
    refine rgs [CG.pure (.bool (ng p s (aG (dS p s g) k).chan)),CG.pure (.bool (FH s (aG (dS p s g) k).chan)),⟨true,[.s 8 0,.s 99 0],.tup [],Lu (kG (fF p s (dS p s g) k) k (yU p s (aG (dS p s g) k)))⟩] rfl ?_ ?_
    ·have hq:=DV p s (aG (dS p s g) k).chan hch hc4;have hq2:=uz s (aG (dS p s g) k).chan (by unfold eP at hch;omega)
     have hq3:=I4 (fF p s (dS p s g) k) k (yU p s (aG (dS p s g) k)) (by omega);have e:(bif (bif (aG (dS p s g) k).send then ng p s (aG (dS p s g) k).chan else false)then true else (bif !(aG (dS p s g) k).send then FH s (aG (dS p s g) k).chan else false))=yU p s (aG (dS p s g) k):=by simp only [bor,band];rfl
     have ho1:lg [.s 8 0,.s 99 0] [.cells ⟨23,1,fun _ => .own (.s 99 0) (fF p s (dS p s g) k).length 0 (fF p s (dS p s g) k).length none,0⟩,qE 3 .i64 (fF p s (dS p s g) k)]:=⟨fun _ _=>rfl,fun _ _=>rfl,tt⟩;have ho2:lg (bs 2) (Lu (kG (fF p s (dS p s g) k) k (yU p s (aG (dS p s g) k)))):=⟨fun _ _=>rfl,fun _ _=>rfl,tt⟩
     rw [← e]at hq3 ho2 ⊢;exact au
    refine rg [] rfl ?_;refine ⟨k+1,?_,?_,?_⟩
    ·exact hkl
    ·refine em [] trivial ⟨cq,cq,cq,cq,cq,cq,cq,cq,tt⟩ ⟨obs rfl,pq rfl rfl rfl rfl rfl (fun q hq=>rfl),tt⟩
    ·(try simp only []);first | omega | grind
   ·have hkl:k=(dS p s g).cases.length:=by simp [-List.getD_eq_getElem?_getD]at h10;omega
    subst hkl;refine xt (sq (rgs [⟨true,[.s 8 0,.s 99 0],.tup [],Lu (lI p s g)⟩] rfl ?_ ?_))
    ·have hq3:=I4 (fF p s (dS p s g) (dS p s g).cases.length) (dS p s g).cases.length ((fF p s (dS p s g) (dS p s g).cases.length).length==0&&(dS p s g).els != -1) (by omega);have e:kG (fF p s (dS p s g) (dS p s g).cases.length) (dS p s g).cases.length ((fF p s (dS p s g) (dS p s g).cases.length).length==0&&(dS p s g).els != -1)=lI p s g:=by rw [lI,if_neg (by simp [e61])]
     have e2:((fF p s (dS p s g) (dS p s g).cases.length).length==0&&(dS p s g).els != -1)=(bif (((fF p s (dS p s g) (dS p s g).cases.length).length:Int)==0)then (dS p s g).els != -1 else false):=by rw [band];congr 1;rw [Bool.eq_iff_iff];simp
     rw [e,e2]at hq3;have ho1:lg [.s 8 0,.s 99 0] [.cells ⟨23,1,fun _ => .own (.s 99 0) (fF p s (dS p s g) (dS p s g).cases.length).length 0 (fF p s (dS p s g) (dS p s g).cases.length).length none,0⟩,qE 3 .i64 (fF p s (dS p s g) (dS p s g).cases.length)]:=⟨fun _ _=>rfl,fun _ _=>rfl,tt⟩
     have ho2:lg (bs 2) (Lu (lI p s g)):=⟨fun _ _=>rfl,fun _ _=>rfl,tt⟩;exact au
    refine sg rfl ?_;refine WP.ret ?_;change Fin ..;refine aH hT [(.s 99 0,(lI p s g).length)] (ts:=[(6,ints false (lI p s g))]) (l:=[ints false (lI p s g)]) ⟨⟨_,rfl,Nat.le_refl _⟩,tt⟩ ⟨⟨rfl,_,rfl,?_⟩,tt⟩ trivial rfl rfl rfl;exact jm rfl rfl rfl (fun h=>by cases h) (by simp [eH,aN]) (fun q hq=>by rw [Nat.zero_add];exact ⟨rfl,AEq.refl _⟩)
structure Tch where
 kind:Int
 num:Int
 wr:Bool
 deriving DecidableEq
def oU (x:Tch):AV:=bG 134 [.int x.kind,.int x.num,.bool x.wr]
def zy:Tch:=⟨0,0,false⟩
structure Evt where
 go:Int
 a:Int
 b:Int
 op:Int
 c:Int
 val:Int
 tag:Int
 ts:List Tch
 n:Int
def O5 (l:List Tch):AV := .agg 135 6 (fun i=>oU (l.getD i zy))
def lM (x:Evt):AV:=bG 137 [.int x.go,.int x.a,.int x.b,.int x.op,.int x.c,.int x.val,.int x.tag,O5 x.ts,.int x.n]
theorem qY (x:Evt):dw (lM x)=true:=qw (fun i hi=>by
 match i,hi with
 | 0,_ | 1,_ | 2,_ | 3,_ | 4,_ | 5,_ | 6,_ | 8,_=>rfl
 | 7,_=>exact qw (fun j _=>qw (fun q hq=>by match q,hq with | 0,_ | 1,_ | 2,_=>rfl)))
def C9:Evt:=⟨0,0,0,0,0,0,0,[],0⟩
section
variable {α:Type} [DecidableEq α] (d:α)
def dd (l:List α):Nat→List α
 | 0=>[]
 | k+1=>if 0<k∧l.getD k d=l.getD (k - 1) d then dd l k else dd l k++[l.getD k d]
theorem Jv (l:List α):∀ k,(dd d l k).length≤k
 | 0=>Nat.le_refl _
 | k+1=>by
  have:=Jv l k;simp only [dd];split
  ·omega
  ·simp;omega
theorem Jw (l:List α):∀ k,k≤l.length→(∀ j,0<j→j<k→l.getD j d≠l.getD (j - 1) d)→dd d l k=l.take k
 | 0,_,_=>rfl
 | k+1,hk,h=>by
  rw [dd,if_neg (fun e=>h k e.1 (by omega) e.2),Jw l k (by omega) (fun j h1 h2=>h j h1 (by omega))];rw [List.take_add_one];have:k<l.length:=by omega
  simp [this]
theorem Ju {l:List α} {k:Nat} (h0:0<k) (h:l.getD k d=l.getD (k - 1) d):dd d l (k+1)=dd d l k:=by rw [dd,if_pos ⟨h0,h⟩]
theorem Pe {l:List α} {k:Nat} (h:l.getD k d≠l.getD (k - 1) d):dd d l (k+1)=dd d l k++[l.getD k d]:=by rw [dd,if_neg (fun e=>h e.2)]
theorem DX {l:List α} (h:∀ j,0<j→j<l.length→l.getD j d≠l.getD (j - 1) d):dd d l l.length=l:=by
 rw [Jw d l l.length (Nat.le_refl _) h,List.take_length]
theorem MG {enc:α→AV} {l c:List α} {i:Nat} {z:AV} (ht:c.take i=dd d l l.length) (hi:i=(dd d l l.length).length) (hl:i≤l.length) (q:Nat) (hq:q<l.length) :
 (bif Nat.ble i q&&Nat.blt q (i+(l.length - i))then z else enc (c.getD q d))=(bif Nat.blt q (dd d l l.length).length then enc ((dd d l l.length).getD q d)else z):=by
 by_cases h:i≤q
 ·have e:(Nat.ble i q&&Nat.blt q (i+(l.length - i)))=true:=by simp [h,Nat.blt_eq];omega
  have e2:Nat.blt q (dd d l l.length).length=false:=by
   cases hz:Nat.blt q (dd d l l.length).length with
   | false=>rfl
   | true=>rw [Nat.blt_eq]at hz;omega
  rw [e,e2,cond_true,cond_false]
 ·have e:(Nat.ble i q&&Nat.blt q (i+(l.length - i)))=false:=by simp;intro h';omega
  rw [e,cond_false,kT (by omega),← ht];simp only [List.getD_eq_getElem?_getD,List.getElem?_take];rw [if_pos (by omega)]
end
theorem wH {i:Nat} (h:1≤i) (h2:i<2 ^ 63):(IntKind.i64.wrap ((i:Int) - 1)).toNat=i - 1:=by rw [cu (by omega) (by omega)];omega
theorem KN {α:Type} {enc:α→AV} {z:AV} {ids:List Id} (h:∀ a,dM ids (enc a)=true) (hz:dM ids z=true) (l:List α) {d:α} {q n:Nat}:dM ids (bif Nat.blt q n then enc (l.getD q d)else z)=true:=by
 cases Nat.blt q n
 ·exact hz
 ·exact h _
open Go.Proofs Go.Sort
section
variable {α:Type} [Inhabited α]
def gy (cf:α→α→Int) (l:List α):List α:=(pdq (Go.Proofs.ltOf cf) l.toArray 0 l.length (Lib.bitLen l.length) true true).toList
theorem BO {cf:α→α→Int} (hO:SWO (Go.Proofs.ltOf cf)) (l:List α):PermIn 0 l.length l.toArray (gy cf l).toArray∧SortedIn (Go.Proofs.ltOf cf) 0 l.length (gy cf l).toArray:=by
 have h:=pdq_sorts (Go.Proofs.ltOf cf) hO l.toArray 0 l.length (Lib.bitLen l.length) true true (Nat.zero_le _) (by simp) (.inl rfl);exact ⟨by simpa [gy]using h.1,by simpa [gy]using h.2⟩
theorem qO {cf:α→α→Int} (hO:SWO (Go.Proofs.ltOf cf)) (l:List α):(gy cf l).length=l.length:=by
 have:=(BO hO l).1.1;simpa using this
end
section
variable {P:Program} {T:Nat→TI} {N:Nat}
structure RF (T:Nat→TI) (N E k:Nat) {α:Type} (encA:α→AV) (encV:α→List Value):Prop where
 len:∀ x,(encV x).length=k
 one:∀ x,∀ v∈encV x,v.oneCell'=true
 rep:∀ I ρ x,Rep T N I ρ (encA x) (encV x)
 uni:∀ I ρ x cs,Rep T N I ρ (encA x) cs→cs=encV x
 fits:∀ x,fit T E (encA x)=true
 pack:∀ x,bZ (encA x) (encV x) = .agg (encV x).toArray
 size:(T E).size=k
 pos:0<k
theorem Fa {A B:World} (h:Grown A B):∃ q os',B=grow (A.drewN q) os':=by
 refine ⟨B.drawn - A.drawn,B.heap.extract A.heap.size B.heap.size,?_⟩;obtain ⟨hp,tp,dr,os,out⟩:=B;have h1:=h.os;have h2:=h.output;have h3:=h.tape
 simp only at h1 h2 h3;simp only [grow,World.drewN,World.mk.injEq];refine ⟨?_,h3.1,by omega,h1,h2⟩;apply Array.ext
 ·have:=h.size;simp only [Array.size_append,Array.size_extract]at *
  omega
 ·intro i hi hi2;have:=h.size
  rw [Array.getElem_append];split
  ·rename_i hlt;have:=h.same i hlt
   simp only [Array.getElem?_eq_getElem hi,Array.getElem?_eq_getElem hlt,Option.some.injEq]at this;exact this
  ·rename_i hge;rw [Array.getElem_extract];congr 1;omega
theorem Aw {α:Type} [Inhabited α] (enc:α→List Value) (k:Nat) (w:World) (n blk off:Nat) (d:Array α) (os:Array Obj) {r:Nat} (hr:r<w.heap.size) :
 (sortWorldK enc k w blk off n d os).heap[r]? = if blk=r then (w.heap[r]?).map (onCells (putCells id off (flatK enc k d)))else w.heap[r]? := by
 unfold sortWorldK putRowK;have h1:r<(putRow id (Sort.ahead w n) blk off (flatK enc k d)).heap.size:=by simpa [putRow,mapBlock,Sort.ahead]using hr
 rw [heap_grow_old _ _ h1];simp only [putRow,mapBlock,Sort.ahead,Array.getElem?_modify]
theorem Me {α:Type} [Inhabited α] {E k:Nat} {encA:α→AV} {encV:α→List Value} (hE:RF T N E k encA encV) {cf:α→α→Int} {g:FuncId} (hc:∀ x y,AC P T N g [encA x,encA y] [] (.v (.int .i64 (cf x y))) []) (blk off size:Nat) (w:World) (hgl:∀ (b o n:Nat),(T b).glb[o]? = some n→w.cell? ⟨b,o,none⟩=some (.int .u8 n)∧b≠blk):CmpLays P g #[] encV k cf blk off size w:=by
 intro m os dk hdk x y;have h:=(hc x y).2 (fun b o=>((T b).glb[o]?).map fun (m:Nat)=>Value.int .u8 (m:Int)) iI (sortWorldK encV k w blk off m dk os) [.agg (encV x).toArray,.agg (encV y).toArray] rfl (fun i a v ha hv=>by
  match i with
  | 0=>simp at ha hv;subst ha hv;exact .one ⟨_,hE.rep _ _ x,(hE.pack x).symm⟩
  | 1=>simp at ha hv;subst ha hv;exact .one ⟨_,hE.rep _ _ y,(hE.pack y).symm⟩
  | i+2=>simp at ha) ⟨fun id B h=>(by cases id <;> simp [ofB]at h),fun id B h=>(by cases id <;> simp [ofB]at h),fun id p h=>(by cases h),fun i j p q h=>(by cases h),fun b o y h=>(by
   simp only [Option.map_eq_some_iff]at h;obtain ⟨n,h1,rfl⟩:=h;obtain ⟨h2,h3⟩:=hgl b o n h1;rw [jd (w:=w) ?_]
   ·exact h2
   ·rw [Aw encV k w m blk off dk os (iE h2),if_neg (fun e=>h3 e.symm)]),fun b o n h=>(by simp [h])⟩
 refine h.mono ?_;rintro e w' ⟨v,I',ρ',rfl,hev,hv,_⟩;exact ⟨by rw [hv.v.1],Fa (Grown.of_ev hev)⟩
theorem Ko (hT:TOK P T N) {ρr:Go.Shelf.Ren} (L:SlLaysF0.n6 P ρr) {α:Type} [Inhabited α] {E k:Nat} {encA:α→AV} {encV:α→List Value} (hE:RF T N E k encA encV)
 (aE:∀ w,(isAgg (ρr.t 24)).run P w = .ok true w) (zE:∀ w,(Go.sizeOf (ρr.t 24)).run P w = .ok k w) {cf:α→α→Int} (hO:SWO (Go.Proofs.ltOf cf)) {g:FuncId} (eg:∀ args w,(callFunc g args).run P w = .ok (.enter g args) w)
 (hc:∀ x y,AC P T N g [encA x,encA y] [] (.v (.int .i64 (cf x y))) []) (hcall:callable P (ρr.f 6)) (l:List α) (hl62:l.length<4611686018427387904) :
 AC P T N (ρr.f 6) [.own (.b 0) l.length 0 l.length none,.clo g []] [bJ E encA default l] (.tup []) [bJ E encA default (gy cf l)]:=by
 refine ⟨hcall,fun I ρ w vs hvl hvs hw=>?_⟩;obtain ⟨v,c0,rfl⟩:∃ v c0,vs=[v,c0]:=by
  match vs,hvl with
  | [v,c0],_=>exact ⟨v,c0,rfl⟩
 have hv:=(hvs 0 _ v rfl rfl).rep1 (fun _=>by simp);have hv1:=(hvs 1 _ c0 rfl rfl).rep1 (fun _=>by simp)
 have hc0:c0 = .func (.func g) #[] #[]:=by
  obtain ⟨cs,h1,h2⟩:=hv1;cases h1 with
  | clo ys hl h =>
   have:ys = #[]:=Array.eq_empty_of_size_eq_zero (by simpa using hl);subst this;exact h2
 subst hc0;have hsl:=qO hO l
 have hm:ofB [bJ E encA default l] (.b 0)=some (bJ E encA default l):=rfl;have hset:ofB [bJ E encA default (gy cf l)]=vV (ofB [bJ E encA default l]) (.b 0) (bJ E encA default (gy cf l)):=by
  funext a;by_cases ha:a = .b 0
  ·subst ha;rw [bC];rfl
  ·rw [dL _ _ ha];cases a with
   | s _ _=>rfl
   | b j =>
    cases j with
    | zero=>exact absurd rfl ha
    | succ j=>rfl
 rcases Rep.own_inv hv with ⟨rfl,h0,_,_⟩ | ⟨q,hq,hqn,hx⟩
 ·obtain rfl:l=[]:=List.eq_nil_of_length_eq_zero h0;refine (AnyF.slices_SortFunc_none L none 0 (.func (.func g) #[] #[]) w).mono ?_;rintro e w' ⟨rfl,rfl⟩;refine ⟨_,I,ρ,rfl,Ev.refl _ _ _,.tup _ rfl (fun i c hi=>by simp at hi),?_⟩;rw [show gy cf ([]:List α)=[]from List.eq_nil_of_length_eq_zero hsl];exact hw
 ·obtain ⟨q',cs,c1,c2,c3,c4,c5,c6,c7,c8,c9,c10⟩:=hw.cellsAt hm hq;rw [hq]at c1;cases c1;obtain ⟨c,rfl,g1,g2,g3,g4,g5,g6⟩:=hx c3;simp only [hE.size]at c7 c8;have hk0:=hE.pos
  have hcell:∀ j,j<l.length*k→cs[j]? = some ((encV (l.getD (j / k) default))[j % k]!):=by
   intro j hj;have hjk:j / k<l.length:=(Nat.div_lt_iff_lt_mul hk0).2 hj
   obtain ⟨seg,e1,e2,e3,e4⟩:=c8 (j / k) hjk;have hseg:=hE.uni _ _ _ _ e1
   subst hseg;have hm:=Nat.mod_lt j hk0
   have:=e4 (j % k) hm;rw [show j / k*k+j % k=j by rw [Nat.mul_comm];exact Nat.div_add_mod j k]at this;rw [this];have hlt:j % k<(encV (l.getD (j / k) default)).length:=by rw [hE.len];exact hm
   rw [List.getElem?_eq_getElem hlt,getElem!_pos (encV (l.getD (j / k) default)) (j % k) hlt]
  have hlt:=hw.place_lt hq;have hH:HoldsK encV k w q.b 0 l.toArray:=by
   intro j hj;have hj':j<l.length*k:=by simpa using hj
   refine ⟨?_,?_⟩
   ·simp only [World.cell?,c5,Nat.zero_add];rw [hcell j hj',get_flatK _ _ _ _ (by simpa using hj')];simp [List.getD_eq_getElem?_getD,getElem!_def];cases l[j / k]? <;> rfl
   ·simp [World.frozen?,c5]
  have hcall2:=AnyQ.slices_SortFunc_eq L k aE zE encV hE.len hE.one cf hO g #[] q.b 0 c l.toArray w eg (Me hE hc q.b 0 l.toArray.size w (fun b o n hgb=>⟨hw.imm _ _ _ (hw.gl b o n hgb),fun e=>by
   have h9:=c9 o (by rw [← e,hw.gl b o n hgb];simp);simp at h9⟩)) hH hlt (by simpa using hl62)
  simp only [Nat.zero_mul];refine hcall2.mono ?_;rintro e w' ⟨rfl,n,os,rfl⟩;have hd':(pdq (Go.Proofs.ltOf cf) l.toArray 0 l.toArray.size (Lib.bitLen l.toArray.size) true true)=(gy cf l).toArray:=by simp [gy]
  rw [hd'];have hput:=fun r hr=>Aw encV k w n q.b 0 (gy cf l).toArray os (r:=r) hr
  have hcs':∀ j,(putCells id 0 (flatK encV k (gy cf l).toArray) cs)[j]? = if j<l.length*k then some ((encV ((gy cf l).getD (j / k) default))[j % k]!)else cs[j]? := by
   intro j;simp only [putCells,Array.getElem?_mapIdx,Nat.zero_add,Nat.zero_le,true_and,size_flatK,List.size_toArray,hsl,Nat.sub_zero];split
   ·rename_i hj;rw [hcell j hj];simp only [Option.map_some,Option.some.injEq,id];rw [get_flatK _ _ _ _ (by simpa [hsl]using hj)];simp [List.getD_eq_getElem?_getD,getElem!_def];cases (gy cf l)[j / k]? <;> rfl
   ·cases cs[j]? <;> rfl
  have hsw:=zI (len:=l.length) (i:=0) (h:=fun j=>encA ((gy cf l).getD j default)) (cs':=putCells id 0 (flatK encV k (gy cf l).toArray) cs) (w':=sortWorldK encV k w q.b 0 n (gy cf l).toArray os) hT hw hm hq (by simp) (Nat.zero_le _) c5 (by simp [putCells])
   (by rw [hput _ hlt,if_pos rfl,c5];rfl) (fun b hb hne=>by rw [hput _ hb,if_neg (Ne.symm hne)]) (by simp [sortWorldK,putRowK,putRow,mapBlock,Sort.ahead,grow]) rfl rfl ⟨rfl,by simp [sortWorldK,putRowK,putRow,mapBlock,Sort.ahead,grow]⟩
   (
    fun j hj=>⟨encV ((gy cf l).getD j default),hE.rep _ _ _,hE.fits _,by rw [hE.len];exact hE.size.symm,fun o ho=>by
    have ho':o<k:=by rw [← hE.size];exact ho
    have hs':(T E).size=k:=hE.size;show (putCells id 0 (flatK encV k (gy cf l).toArray) cs)[(0+j)*(T E).size+o]? = _
    rw [hs',Nat.zero_add];have hlt2:j*k+o<l.length*k:=by
     have:=Nat.mul_le_mul_right k (show j+1≤l.length from hj);rw [Nat.add_mul,Nat.one_mul]at this;omega
    rw [hcs',if_pos hlt2];have e1:(j*k+o) / k=j:=by rw [Nat.mul_comm,Nat.mul_add_div hk0,Nat.div_eq_of_lt ho',Nat.add_zero]
    have e2:(j*k+o) % k=o:=by rw [Nat.mul_comm,Nat.mul_add_mod,Nat.mod_eq_of_lt ho']
    rw [e1,e2];have hlt3:o<(encV ((gy cf l).getD j default)).length:=by rw [hE.len];exact ho'
    rw [List.getElem?_eq_getElem hlt3,getElem!_pos (encV ((gy cf l).getD j default)) o hlt3]⟩)
   (
    fun j hj=>by
    have hs':(T E).size=k:=hE.size;change j<0*(T E).size∨(0+l.length)*(T E).size≤j at hj;rw [hs',Nat.zero_mul,Nat.zero_add]at hj;rw [hcs',if_neg (by omega)])
  refine ⟨_,I,ρ,rfl,hsw.1,.tup _ rfl (fun i c hi=>by simp at hi),?_⟩;rw [hset];have e2:(Ob.cells { ty:=E,n:=l.length,get:=fun j=>bif Nat.ble 0 j&&Nat.blt j (0+l.length)then encA ((gy cf l).getD (j - 0) default)else encA (l.getD j default),fz:=0}:Ob)=bJ E encA default (gy cf l):=by
   simp only [bJ,Ob.cells.injEq,Blk.mk.injEq,hsl,true_and,and_true];funext j;by_cases hj:j<l.length
   ·have e:(Nat.ble 0 j&&Nat.blt j (0+l.length))=true:=by rw [Bool.and_eq_true];exact ⟨by simp,by rw [Nat.blt_eq];omega⟩
    rw [e];rfl
   ·have e:(Nat.ble 0 j&&Nat.blt j (0+l.length))=false:=by
     cases hb:(Nat.ble 0 j&&Nat.blt j (0+l.length))with
     | false=>rfl
     | true=>rw [Bool.and_eq_true,Nat.blt_eq]at hb;omega
    rw [e];simp [List.getD_eq_getElem?_getD,hsl,show l.length≤j by omega]
  refine Eq.mp ?_ hsw.2;exact congrArg (fun o=>dR T N I ρ (vV (ofB [bJ E encA default l]) (.b 0) o) _) e2
end
end Go.Ab
