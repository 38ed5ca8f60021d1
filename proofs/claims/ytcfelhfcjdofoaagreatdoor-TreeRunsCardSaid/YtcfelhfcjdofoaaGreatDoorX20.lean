/- Part 21 of a proof of a statement about the given program: an abstract machine over the model, proved sound, and contracts of the functions that the statement reaches; the last part proves the statement, for every input, with no condition. -/
import Derived.Test.YtcfelhfcjdofoaaGreatDoorX19
import Derived.Test.YtcfelhfcjdofoaaGreatDoorX17
import Derived.Test.YtcfelhfcjdofoaaGreatDoorX15
set_option autoImplicit false
set_option linter.unusedSimpArgs false
set_option linter.unusedVariables false
set_option maxHeartbeats 4000000
set_option maxRecDepth 20000
namespace Go.Ab
open Go.Proofs
theorem mJ (a k:Int):AC Tryz.prog T bn 245 [.int a,.int k] [] (.int (uJ a k)) []:=by
 refine aA hT Tryz.func245 rfl rfl (Nat.le_of_ble_eq_true rfl) ?_;refine sg rfl ?_;refine sq (rgs [] rfl ?_ ?_)
 ·have:=(um k).1;exact au
 exact WP.ret (cZ hT (by rfl) rfl)
theorem rH (a k v:Int):AC Tryz.prog T bn 246 [.int a,.int k,.int v] [] (.int (Py a k v)) []:=by
 refine aA hT Tryz.func246 rfl rfl (Nat.le_of_ble_eq_true rfl) ?_;refine sg rfl ?_;refine sq (rgs [] rfl ?_ ?_)
 ·have:=(um k).1;exact au
 exact WP.ret (cZ hT (by rfl) rfl)
theorem qZ (b:Bool):AC Tryz.prog T bn 247 [.bool b] [] (.int (mZ b)) []:=by
 refine aA hT Tryz.func247 rfl rfl (Nat.le_of_ble_eq_true rfl) ?_;refine sg rfl ?_;refine sq (sq (rg [] rfl ?_));refine cd rfl (fun h1=>?_) (fun h1=>?_)
 ·refine sg rfl ?_;refine WP.ret ?_;change Fin ..;refine cZ hT (by rfl) ?_;simp_all [mZ]
 ·refine sk (sq (rg [] rfl ?_));refine WP.ret ?_;change Fin ..;refine cZ hT (by rfl) ?_;simp_all [mZ]
theorem Px (op:Int):AC Tryz.prog T bn 206 [.int op] [] (.int (jJ op)) []:=by
 refine aA hT Tryz.func206 rfl rfl (Nat.le_of_ble_eq_true rfl) ?_;refine sg rfl ?_;refine sq (sq (rg [] rfl ?_));refine cd rfl (fun h1=>?_) (fun h1=>?_)
 ·simp only [bor]at h1;simp at h1;refine sg rfl ?_;exact WP.ret (cZ hT (by rfl) (by rw [jJ,if_neg (by omega),if_neg (by omega)]))
 ·simp only [bor]at h1;simp at h1;refine sk (sq (sq (rg [] rfl ?_)));refine cd rfl (fun h3=>?_) (fun h3=>?_)
  ·simp at h3;refine sg rfl ?_;exact WP.ret (cZ hT (by rfl) (by rw [jJ,if_pos (by omega)]))
  ·simp at h3;refine sk (sq (rg [] rfl ?_));exact WP.ret (cZ hT (by rfl) (by rw [jJ,if_neg (by omega),if_pos (by omega)]))
theorem tq (a:Int) (n:Nat) (hn:1≤n∧n≤63) (sign:Bool):AC Tryz.prog T bn 248 [.int a,.int n,.bool sign] [] (.int (wI (eX (lH a n sign) 64))) []:=by
 refine aA hT Tryz.func248 rfl rfl (Nat.le_of_ble_eq_true rfl) ?_;refine sg rfl ?_;refine sg rfl ?_;refine sq (sq (rg [] rfl ?_));refine bk ?_;refine WP.loop (α:=Nat) (fun k=>aK [(0,.int a),(1,.int n),(2,.bool sign),(7,.int (wI (eX (lH a n sign) k))),(8,.int k)] []) (fun k=>k≤64) (fun k=>64 - k) ?_ ?_
 ·refine ⟨0,?_,?_⟩
  ·exact Nat.zero_le _
  ·refine em [] trivial ⟨cq,cq,cq,cq,cq,tt⟩ trivial
 ·rintro k hk;refine sq (sq (rg [] rfl ?_));refine cd rfl (fun h3=>?_) (fun h3=>?_)
  ·have hk64:k<64:=by simp at h3;omega
   have hb:=zx (lH a n sign) hk64;refine sk (sq (bk (sq (rg [] rfl ?_))));refine sq (sq (rg [] rfl ?_));refine cd rfl (fun h6=>?_) (fun h6=>?_)
   ·have hkn:k<n:=by simp at h6;omega
    have hv:lH a n sign k=ig a k:=if_pos hkn;refine rgs [CG.pure (.int (uJ a k))] rfl ?_ ?_
    ·have hq:=mJ a k;exact au
    refine rgs [CG.pure (.int (Py (wI (eX (lH a n sign) k)) k (uJ a k)))] rfl ?_ ?_
    ·have hq:=rH (wI (eX (lH a n sign) k)) k (uJ a k);exact au
    refine rg [] rfl ?_;refine ⟨k+1,?_,?_,?_⟩
    ·exact hk64
    ·refine em [] trivial ⟨cq,cq,cq,⟨rfl,_,rfl,ah (by rw [← hb,hv,jL a hk64])⟩,cq,tt⟩ trivial
    ·(try simp only []);first | omega | grind
   ·have hkn:¬ k<n:=by simp at h6;omega
    refine sg rfl ?_;refine cd rfl (fun h8=>?_) (fun h8=>?_)
    ·have e1:IntKind.i64.wrap ((n:Int) - 1)=((n - 1:Nat):Int):=by rw [bC (by omega) (by omega)];omega
     have hv:lH a n sign k=ig a (n - 1):=by rw [lH,if_neg hkn,h8,Bool.true_and]
     refine rgs [CG.pure (.int (uJ a (n - 1:Nat)))] rfl ?_ ?_
     ·have hq:=mJ a (n - 1:Nat);rw [← e1]at hq ⊢;exact au
     refine rgs [CG.pure (.int (Py (wI (eX (lH a n sign) k)) k (uJ a (n - 1:Nat))))] rfl ?_ ?_
     ·have hq:=rH (wI (eX (lH a n sign) k)) k (uJ a (n - 1:Nat));exact au
     refine rg [] rfl ?_;refine ⟨k+1,?_,?_,?_⟩
     ·exact hk64
     ·refine em [] trivial ⟨cq,cq,cq,⟨rfl,_,rfl,ah (by rw [← hb,hv,jL a (show n - 1<64 by omega)])⟩,cq,tt⟩ trivial
     ·(try simp only []);first | omega | grind
    ·have hv:lH a n sign k=false:=by rw [lH,if_neg hkn,h8,Bool.false_and]
     refine sk (rgs [CG.pure (.int (Py (wI (eX (lH a n sign) k)) k 0))] rfl ?_ ?_)
     ·have hq:=rH (wI (eX (lH a n sign) k)) k 0;exact au
     refine rg [] rfl ?_;refine ⟨k+1,?_,?_,?_⟩
     ·exact hk64
     ·refine em [] trivial ⟨cq,cq,cq,⟨rfl,_,rfl,ah (by rw [← hb,hv];rfl)⟩,cq,tt⟩ trivial
     ·(try simp only []);first | omega | grind
  ·have hk64:k=64:=by simp at h3;omega
   refine xt (sq (rg [] rfl ?_));exact WP.ret (cZ hT (by rfl) (by rw [hk64]))
theorem TM (op a b:Int) (h:21≤op∧op≤24):AC Tryz.prog T bn 250 [.int op,.int a,.int b] [] (.int (qL op a b)) []:=by
 refine aA hT Tryz.func250 rfl rfl (Nat.le_of_ble_eq_true rfl) ?_;refine sg rfl ?_;refine sg rfl ?_;refine sq (sq (rg [] rfl ?_));refine bk ?_;refine WP.loop (α:=Nat) (fun k=>aK [(0,.int op),(1,.int a),(2,.int b),(7,.int (wI (eX (fun k=>Lr op (ig a k) (ig b k)) k))),(8,.int k)] []) (fun k=>k≤64) (fun k=>64 - k) ?_ ?_
 ·refine ⟨0,?_,?_⟩
  ·exact Nat.zero_le _
  ·refine em [] trivial ⟨cq,cq,cq,cq,cq,tt⟩ trivial
 ·rintro k hk;refine sq (sq (rg [] rfl ?_));refine cd rfl (fun h3=>?_) (fun h3=>?_)
  ·have hk64:k<64:=by simp at h3;omega
   have hb:=zx (fun k=>Lr op (ig a k) (ig b k)) hk64;refine sk (sq (bk (sq (rgs [CG.pure (.int (uJ a k)),CG.pure (.int (uJ b k))] rfl ?_ ?_))))
   ·have hq1:=mJ a k;have hq2:=mJ b k
    exact au
   refine sq ?_;obtain ⟨x,hx⟩:∃ x,ig a k=x:=⟨_,rfl⟩;obtain ⟨y,hy⟩:∃ y,ig b k=y:=⟨_,rfl⟩;refine WP.ent (st':=aK [(0,.int op),(1,.int a),(2,.int b),(7,.int (wI (eX (fun k=>Lr op (ig a k) (ig b k)) k))),(8,.int k),(9,.int (mZ x)),(10,.int (mZ y))] []) ?_ ?_
   ·refine em [] trivial ⟨cq,cq,cq,cq,cq,⟨rfl,_,rfl,ah (by rw [jL a hk64,hx])⟩,⟨rfl,_,rfl,ah (by rw [jL b hk64,hy])⟩,tt⟩ trivial
   refine rg [] rfl ?_;refine WP.seqJ (α:=Unit) (fun _=>aK [(0,.int op),(1,.int a),(2,.int b),(7,.int (wI (eX (fun k=>Lr op (ig a k) (ig b k)) k))),(8,.int k),(11,.bool (Lr op x y))] []) (fun _=>True) ?_ ?_
   ·refine sg rfl ?_;refine bk (sq (rg [] rfl ?_));refine cd rfl (fun h8=>?_) (fun h8=>?_)
    ·have e:op=21:=by simpa using h8
     refine rg [] rfl ?_;refine ⟨(),?_,?_⟩
     ·trivial
     ·refine em [] trivial ⟨cq,cq,cq,cq,cq,⟨rfl,_,rfl,ah (by rw [e];cases x <;> cases y <;> rfl)⟩,tt⟩ trivial
    ·have e1:op≠21:=by simpa using h8
     refine sg rfl ?_;refine cd rfl (fun h10=>?_) (fun h10=>?_)
     ·have e:op=22:=by simpa using h10
      refine rg [] rfl ?_;refine ⟨(),?_,?_⟩
      ·trivial
      ·refine em [] trivial ⟨cq,cq,cq,cq,cq,⟨rfl,_,rfl,ah (by rw [e];cases x <;> cases y <;> rfl)⟩,tt⟩ trivial
     ·have e2:op≠22:=by simpa using h10
      refine sg rfl ?_;refine cd rfl (fun h12=>?_) (fun h12=>?_)
      ·have e:op=23:=by simpa using h12
       refine rg [] rfl ?_;refine ⟨(),?_,?_⟩
       ·trivial
       ·refine em [] trivial ⟨cq,cq,cq,cq,cq,⟨rfl,_,rfl,ah (by rw [e];cases x <;> cases y <;> rfl)⟩,tt⟩ trivial
      ·have e3:op≠23:=by simpa using h12
       refine sg rfl ?_;refine cd rfl (fun h14=>?_) (fun h14=>?_)
       ·have e:op=24:=by simpa using h14
        refine rg [] rfl ?_;refine ⟨(),?_,?_⟩
        ·trivial
        ·refine em [] trivial ⟨cq,cq,cq,cq,cq,⟨rfl,_,rfl,ah (by rw [e];cases x <;> cases y <;> rfl)⟩,tt⟩ trivial
       ·have e4:op≠24:=by simpa using h14
        omega
   ·rintro _ h_inv;refine rgs [CG.pure (.int (mZ (Lr op x y))),CG.pure (.int (Py (wI (eX (fun k=>Lr op (ig a k) (ig b k)) k)) k (mZ (Lr op x y))))] rfl ?_ ?_
    ·have hq1:=qZ (Lr op x y);have hq2:=rH (wI (eX (fun k=>Lr op (ig a k) (ig b k)) k)) k (mZ (Lr op x y))
     exact au
    refine rg [] rfl ?_;refine ⟨k+1,?_,?_,?_⟩
    ·exact hk64
    ·refine em [] trivial ⟨cq,cq,cq,⟨rfl,_,rfl,ah (by rw [← hb,← hx,← hy])⟩,cq,tt⟩ trivial
    ·(try simp only []);first | omega | grind
  ·have hk64:k=64:=by simp at h3;omega
   refine xt (sq (rg [] rfl ?_));exact WP.ret (cZ hT (by rfl) (by rw [hk64,Xy h]))
theorem W9 (b:Int):AC Tryz.prog T bn 252 [.int b] [] (.int (Zf b)) []:=by
 refine aA hT Tryz.func252 rfl rfl (Nat.le_of_ble_eq_true rfl) ?_;refine sg rfl ?_;refine sq (sq (rg [] rfl ?_));refine cd rfl (fun h1=>?_) (fun h1=>?_)
 ·refine sg rfl ?_;refine WP.ret ?_;change Fin ..;refine cZ hT (by rfl) ?_;simp at h1;unfold Zf;split <;> omega
 ·refine sk (sq (rg [] rfl ?_));refine WP.ret ?_;change Fin ..;refine cZ hT (by rfl) ?_;simp at h1;unfold Zf;split <;> omega
theorem zK (a b:Int) (z:Bool) (hb : -64≤b∧b≤64):AC Tryz.prog T bn 251 [.int a,.int b,.int (mZ z)] [] (.int (wI (eX (BJ a b z) 64))) []:=by
 refine aA hT Tryz.func251 rfl rfl (Nat.le_of_ble_eq_true rfl) ?_;refine sg rfl ?_;refine sg rfl ?_;refine sq (sq (rg [] rfl ?_));refine bk ?_;refine WP.loop (α:=Nat) (fun k=>aK [(0,.int a),(1,.int b),(2,.int (mZ z)),(7,.int (wI (eX (BJ a b z) k))),(8,.int k)] []) (fun k=>k≤64) (fun k=>64 - k) ?_ ?_
 ·refine ⟨0,?_,?_⟩
  ·exact Nat.zero_le _
  ·refine em [] trivial ⟨cq,cq,cq,cq,cq,tt⟩ trivial
 ·rintro k hk;refine sq (sq (rg [] rfl ?_));refine cd rfl (fun h3=>?_) (fun h3=>?_)
  ·have hk64:k<64:=by simp at h3;omega
   have hw:=zx (BJ a b z) hk64;have e1:IntKind.i64.wrap ((k:Int) - b)=(k:Int) - b:=bC (by omega) (by omega)
   refine sk (sq (bk (sq (rg [] rfl ?_))));refine sq (sq (rg [] rfl ?_));refine cd rfl (fun h6=>?_) (fun h6=>?_)
   ·have hin:0≤(k:Int) - b∧(k:Int) - b<64:=by
     simp only [band,e1]at h6;simpa using h6
    have e2:(k:Int) - b=(((k:Int) - b).toNat:Int):=by omega
    have hv:BJ a b z k=ig a ((k:Int) - b).toNat:=if_pos hin;refine rgs [CG.pure (.int (uJ a ((k:Int) - b).toNat))] rfl ?_ ?_
    ·have hq:=mJ a ((k:Int) - b).toNat;rw [← e2,← e1]at hq;exact au
    refine rgs [CG.pure (.int (Py (wI (eX (BJ a b z) k)) k (uJ a ((k:Int) - b).toNat)))] rfl ?_ ?_
    ·have hq:=rH (wI (eX (BJ a b z) k)) k (uJ a ((k:Int) - b).toNat);exact au
    refine rg [] rfl ?_;refine ⟨k+1,?_,?_,?_⟩
    ·exact hk64
    ·refine em [] trivial ⟨cq,cq,cq,⟨rfl,_,rfl,ah (by rw [← hw,hv,jL a (by omega)])⟩,cq,tt⟩ trivial
    ·(try simp only []);first | omega | grind
   ·have hin:¬ (0≤(k:Int) - b∧(k:Int) - b<64):=by
     simp only [band,e1]at h6;simpa using h6
    have hv:BJ a b z k=z:=if_neg hin;refine sk (rgs [CG.pure (.int (Py (wI (eX (BJ a b z) k)) k (mZ z)))] rfl ?_ ?_)
    ·have hq:=rH (wI (eX (BJ a b z) k)) k (mZ z);exact au
    refine rg [] rfl ?_;refine ⟨k+1,?_,?_,?_⟩
    ·exact hk64
    ·refine em [] trivial ⟨cq,cq,cq,⟨rfl,_,rfl,ah (by rw [← hw,hv])⟩,cq,tt⟩ trivial
    ·(try simp only []);first | omega | grind
  ·have hk64:k=64:=by simp at h3;omega
   refine xt (sq (rg [] rfl ?_));exact WP.ret (cZ hT (by rfl) (by rw [hk64]))
theorem Ky (a b:Int) (ha:inW a) (hb:inW b):AC Tryz.prog T bn 249 [.int a,.int b] [] (.tup [.int (wI (oh a b)),.v (.int .u64 (C9 a b))]) []:=by
 refine aA hT Tryz.func249 rfl rfl (Nat.le_of_ble_eq_true rfl) ?_;refine sg rfl ?_;refine sg rfl ?_;refine sg rfl ?_;refine sq (sq (rg [] rfl ?_));refine bk ?_;refine WP.loop (α:=Nat) (fun m=>aK [(0,.int a),(1,.int b),(6,.int (wTo a b m).1),(7,.v (.int .u64 (wTo a b m).2)),(8,.int (63 - (m:Int)))] []) (fun m=>m≤64) (fun m=>64 - m) ?_ ?_
 ·refine ⟨0,?_,?_⟩
  ·exact Nat.zero_le _
  ·refine em [] trivial ⟨cq,cq,cq,cq,cq,tt⟩ trivial
 ·rintro m hm;refine sq (sq (rg [] rfl ?_));refine cd rfl (fun h4=>?_) (fun h4=>?_)
  ·have hm64:m<64:=by simp at h4;omega
   have e0:63 - (m:Int)=((63 - m:Nat):Int):=by omega
   have e1:IntKind.i64.wrap (63 - (m:Int) - 1)=63 - ((m+1:Nat):Int):=by rw [bC (by omega) (by omega)];omega
   have hs:wTo a b (m+1)=uT a b (63 - m) (wTo a b m):=rfl;obtain ⟨s,hss⟩:∃ s,wTo a b m=s:=⟨_,rfl⟩;rw [hss]at hs ⊢;refine sk (sq (bk (sq (rg [] rfl ?_))));refine sg rfl ?_;refine sq (sq (rgs [CG.pure (.int (uJ b (63 - m:Nat)))] rfl ?_ ?_))
   ·have hq:=mJ b (63 - m:Nat);rw [← e0]at hq;exact au
   refine cd rfl (fun h8=>?_) (fun h8=>?_)
   ·have hv:ig b (63 - m)=false:=by
     rw [jL b (show 63 - m<64 by omega)]at h8;cases hh:ig b (63 - m)with
     | false=>rfl
     | true=>rw [hh]at h8;cases h8
    refine xt (rg [] rfl ?_);refine ⟨m+1,?_,?_,?_⟩
    ·exact hm64
    ·refine em [] trivial ⟨cq,cq,⟨rfl,_,rfl,ah (by rw [hs,uT,if_pos hv] <;> rfl)⟩,⟨rfl,_,rfl,ah (by rw [hs,uT,if_pos hv] <;> rfl)⟩,⟨rfl,_,rfl,ah (by rw [e1])⟩,tt⟩ trivial
    ·(try simp only []);first | omega | grind
   ·have hv:¬ ig b (63 - m)=false:=by
     rw [jL b (show 63 - m<64 by omega)]at h8;intro hh;rw [hh]at h8;cases h8
    refine sk (sq (sq ?_));rw [jL b (show 63 - m<64 by omega)];refine rg [] rfl ?_;refine cd rfl (fun h9=>?_) (fun h9=>?_)
    ·have hm0:63 - m=63:=by simp at h9;omega
     refine sg rfl ?_;refine sg rfl ?_;refine sg rfl ?_;refine sq (sq (rg [] rfl ?_));refine cd rfl (fun h13=>?_) (fun h13=>?_)
     ·have hl:wU (s.2*2)<wU a:=by simpa using h13
      refine rg [] rfl ?_;refine xt (rg [] rfl ?_);refine ⟨m+1,?_,?_,?_⟩
      ·exact hm64
      ·refine em [] trivial ⟨cq,cq,⟨rfl,_,rfl,ah (by rw [hs,uT,if_neg hv,if_pos hm0,if_pos hl] <;> rfl)⟩,⟨rfl,_,rfl,ah (by rw [hs,uT,if_neg hv,if_pos hm0,if_pos hl] <;> rfl)⟩,⟨rfl,_,rfl,ah (by rw [e1])⟩,tt⟩ trivial
      ·(try simp only []);first | omega | grind
     ·have hl:¬ wU (s.2*2)<wU a:=by simpa using h13
      refine sk (xt (rg [] rfl ?_));refine ⟨m+1,?_,?_,?_⟩
      ·exact hm64
      ·refine em [] trivial ⟨cq,cq,⟨rfl,_,rfl,ah (by rw [hs,uT,if_neg hv,if_pos hm0,if_neg hl] <;> rfl)⟩,⟨rfl,_,rfl,ah (by rw [hs,uT,if_neg hv,if_pos hm0,if_neg hl] <;> rfl)⟩,⟨rfl,_,rfl,ah (by rw [e1])⟩,tt⟩ trivial
      ·(try simp only []);first | omega | grind
    ·have hm0:¬ 63 - m=63:=by simp at h9;omega
     refine sk (sq (rg [] rfl ?_));refine sg rfl ?_;refine sg rfl ?_;refine sg rfl ?_;refine cd rfl (fun h18=>?_) (fun h18=>?_)
     ·have hl:wU (wU (s.2*2)+wU a)<wU (s.2*2):=by simpa using h18
      refine rg [] rfl ?_;refine rg [] rfl ?_;refine ⟨m+1,?_,?_,?_⟩
      ·exact hm64
      ·refine em [] trivial ⟨cq,cq,⟨rfl,_,rfl,ah (by rw [hs,uT,if_neg hv,if_neg hm0,if_pos hl] <;> rfl)⟩,⟨rfl,_,rfl,ah (by rw [hs,uT,if_neg hv,if_neg hm0,if_pos hl] <;> rfl)⟩,⟨rfl,_,rfl,ah (by rw [e1])⟩,tt⟩ trivial
      ·(try simp only []);first | omega | grind
     ·have hl:¬ wU (wU (s.2*2)+wU a)<wU (s.2*2):=by simpa using h18
      refine sk (rg [] rfl ?_);refine ⟨m+1,?_,?_,?_⟩
      ·exact hm64
      ·refine em [] trivial ⟨cq,cq,⟨rfl,_,rfl,ah (by rw [hs,uT,if_neg hv,if_neg hm0,if_neg hl] <;> rfl)⟩,⟨rfl,_,rfl,ah (by rw [hs,uT,if_neg hv,if_neg hm0,if_neg hl] <;> rfl)⟩,⟨rfl,_,rfl,ah (by rw [e1])⟩,tt⟩ trivial
      ·(try simp only []);first | omega | grind
  ·have hm64:m=64:=by simp at h4;omega
   refine xt (sq (rg [] rfl ?_));refine WP.ret ?_;change Fin ..;subst hm64;rw [JY ha hb];exact aJ hT [] (ts:=[(4,.int (wI (oh a b))),(5,.v (.int .u64 (C9 a b)))]) (l:=[.int (wI (oh a b)),.v (.int .u64 (C9 a b))]) trivial ⟨⟨rfl,_,rfl,ah rfl⟩,⟨rfl,_,rfl,ah rfl⟩,tt⟩ trivial rfl rfl rfl
theorem Xq (a:Int):wI (-1 - a)=bX .i64 (-1) a:=by
 have hu:=uo a;rw [ZB];refine XJ (qh _) (qh _) ?_;rw [DC,Fh (Nat.xor_lt_two_pow (uo _) hu),show uN (-1)=2 ^ 64 - 1 from rfl,show uN (-1 - a)=2 ^ 64 - (uN a+1) by have h1:=nK (-1 - a);have h2:=nK a;omega];refine Nat.eq_of_testBit_eq fun j=>?_;rw [Nat.testBit_two_pow_sub_succ hu,Nat.testBit_xor,Nat.testBit_two_pow_sub_one];by_cases hj:j<64
 ·rw [decide_eq_true hj];cases (uN a).testBit j <;> rfl
 ·rw [decide_eq_false hj,Nat.testBit_lt_two_pow (Nat.lt_of_lt_of_le hu (Nat.pow_le_pow_right (by decide) (by omega)))];rfl
theorem Yq (b:Bool):0≤mZ b∧mZ b≤1:=by cases b <;> decide
theorem WT (op a:Int):AC Tryz.prog T bn 207 [.int op,.int a] [] (.int (pK op a)) []:=by
 refine aA hT Tryz.func207 rfl rfl (Nat.le_of_ble_eq_true rfl) ?_;refine sg rfl ?_;refine sq (sq (rg [] rfl ?_));refine bk (sq (rg [] rfl ?_));refine cd rfl (fun h2=>?_) (fun h2=>?_)
 ·have e:op=1:=by simpa using h2
  subst e;refine sg rfl ?_;exact WP.ret (cZ hT (by rfl) (by rw [show pK 1 a=wI (0 - a)from rfl,Int.zero_sub]))
 ·have n1:op≠1:=by simpa using h2
  refine sg rfl ?_;refine cd rfl (fun h4=>?_) (fun h4=>?_)
  ·have e:op=2:=by simpa using h4
   subst e;refine sg rfl ?_;exact WP.ret (cZ hT (by rfl) (Xq a))
  ·have n2:op≠2:=by simpa using h4
   refine sg rfl ?_;refine cd rfl (fun h6=>?_) (fun h6=>?_)
   ·have e:op=3:=by simpa using h6
    subst e;refine sq (sq (rg [] rfl ?_));refine cd rfl (fun h7=>?_) (fun h7=>?_)
    ·refine sg rfl ?_;refine WP.ret ?_;change Fin ..;have ha:¬ 0≤a:=by simp at h7;omega
     exact cZ hT (by rfl) (by rw [show pK 3 a=(if 0≤a then a else wI (0 - a))from rfl,if_neg ha,Int.zero_sub])
    ·refine sk (sq (rg [] rfl ?_));refine WP.ret ?_;change Fin ..;have ha:0≤a:=by simp at h7;omega
     exact cZ hT (by rfl) (by rw [show pK 3 a=(if 0≤a then a else wI (0 - a))from rfl,if_pos ha])
   ·have n3:op≠3:=by simpa using h6
    refine sg rfl ?_;refine cd rfl (fun h10=>?_) (fun h10=>?_)
    ·have e:op=4:=by simpa using h10
     subst e;refine sg rfl ?_;refine sq (sq (rg [] rfl ?_));refine bk ?_;refine WP.loop (α:=Nat) (fun k=>aK [(1,.int a),(5,.int (CP (ig a) k)),(6,.int k)] []) (fun k=>k≤64) (fun k=>64 - k) ?_ ?_
     ·refine ⟨0,?_,?_⟩
      ·exact Nat.zero_le _
      ·refine em [] trivial ⟨cq,cq,cq,tt⟩ trivial
     ·rintro k hk;refine sq (sq (rg [] rfl ?_));refine cd rfl (fun h13=>?_) (fun h13=>?_)
      ·have hk64:k<64:=by simp at h13;omega
       refine sk (sq (bk (rgs [CG.pure (.int (uJ a k))] rfl ?_ ?_)))
       ·have hq:=mJ a k;exact au
       refine rg [] rfl ?_;refine ⟨k+1,?_,?_,?_⟩
       ·exact hk64
       ·refine em [] trivial ⟨cq,⟨rfl,_,rfl,ah (by have hp:=Je (ig a) k;have hy:=Yq (ig a k);rw [jL a hk64,bC (by omega) (by omega),CP,mZ];cases ig a k <;> rfl)⟩,cq,tt⟩ trivial
       ·(try simp only []);first | omega | grind
      ·have hk64:k=64:=by simp at h13;omega
       refine xt (sq (rg [] rfl ?_));refine WP.ret ?_;change Fin ..;exact cZ hT (by rfl) (by rw [hk64];exact TR a)
    ·have n4:op≠4:=by simpa using h10
     refine sg rfl ?_;refine cd rfl (fun h17=>?_) (fun h17=>?_)
     ·have e:op=5:=by simpa using h17
      subst e;refine sg rfl ?_;refine sq (sq (rg [] rfl ?_));refine bk ?_;refine WP.loop (α:=Nat) (fun m=>aK [(1,.int a),(7,.int m),(8,.int (63 - (m:Int)))] []) (fun m=>m≤64∧N7 a (64 - m)+m=N7 a 64) (fun m=>64 - m) ?_ ?_
      ·refine ⟨0,?_,?_⟩
       ·exact ⟨Nat.zero_le _,rfl⟩
       ·refine em [] trivial ⟨cq,cq,cq,tt⟩ trivial
      ·rintro m ⟨hm,hz⟩;refine sq (sq (rgs [CG.pure (.int (uJ a (63 - (m:Int))))] rfl ?_ ?_))
       ·have hq:=mJ a (63 - (m:Int));exact au
       refine cd rfl (fun h20=>?_) (fun h20=>?_)
       ·have hh:m<64∧uJ a (63 - (m:Int))=0:=by
         simp only [band]at h20;have:63 - (m:Int)≥0∧uJ a (63 - (m:Int))=0:=by simpa using h20
         exact ⟨by omega,this.2⟩
        obtain ⟨hm64,hb⟩:=hh;rw [show 63 - (m:Int)=((63 - m:Nat):Int) by omega,jL a (by omega)]at hb;have hb2:ig a (63 - m)=false:=by cases hx:ig a (63 - m)with | false=>rfl | true=>rw [hx]at hb;cases hb
        rw [show 64 - m=(63 - m)+1 by omega,N7,if_neg (by rw [hb2];decide)]at hz;refine sk (sq (bk (rg [] rfl ?_)));refine rg [] rfl ?_;refine ⟨m+1,?_,?_,?_⟩
        ·exact ⟨hm64,by rw [← hz,show 64 - (m+1)=63 - m by omega];omega⟩
        ·refine em [] trivial ⟨cq,cq,⟨rfl,_,rfl,ah (by rw [bC (by omega) (by omega)];congr 2;omega)⟩,tt⟩ trivial
        ·(try simp only []);first | omega | grind
       ·have hh:N7 a (64 - m)=0:=by
         rcases Nat.lt_or_ge m 64 with h1 | h1
         ·have hb:uJ a (63 - (m:Int))≠0:=by
           intro e;rw [e,show decide (63 - (m:Int)≥0)=true from decide_eq_true (by omega)]at h20;cases h20
          rw [show 63 - (m:Int)=((63 - m:Nat):Int) by omega,jL a (by omega)]at hb;have hb2:ig a (63 - m)=true:=by cases hx:ig a (63 - m)with | true=>rfl | false=>rw [hx]at hb;exact absurd rfl hb
          rw [show 64 - m=(63 - m)+1 by omega,N7,if_pos hb2]
         ·rw [show 64 - m=0 by omega,N7]
        rw [hh,Nat.zero_add]at hz;refine xt (sq (rg [] rfl ?_));refine WP.ret ?_;change Fin ..;exact cZ hT (by rfl) (by rw [hz];exact Uj a)
     ·have n5:op≠5:=by simpa using h17
      refine sg rfl ?_;refine cd rfl (fun h24=>?_) (fun h24=>?_)
      ·have e:op=6:=by simpa using h24
       subst e;refine sg rfl ?_;refine sq (sq (rg [] rfl ?_));refine bk ?_;refine WP.loop (α:=Nat) (fun m=>aK [(1,.int a),(9,.int m),(10,.int m)] []) (fun m=>m≤64∧Il a (64 - m)+m=Il a 64) (fun m=>64 - m) ?_ ?_
       ·refine ⟨0,?_,?_⟩
        ·exact ⟨Nat.zero_le _,rfl⟩
        ·refine em [] trivial ⟨cq,cq,cq,tt⟩ trivial
       ·rintro m ⟨hm,hz⟩;refine sq (sq (rgs [CG.pure (.int (uJ a m))] rfl ?_ ?_))
        ·have hq:=mJ a m;exact au
        refine cd rfl (fun h27=>?_) (fun h27=>?_)
        ·have hh:m<64∧uJ a m=0:=by
          simp only [band]at h27;have:(m:Int)<64∧uJ a m=0:=by simpa using h27
          exact ⟨by omega,this.2⟩
         obtain ⟨hm64,hb⟩:=hh;rw [jL a hm64]at hb;have hb2:ig a m=false:=by cases hx:ig a m with | false=>rfl | true=>rw [hx]at hb;cases hb
         rw [show 64 - m=(63 - m)+1 by omega,Il,show 63 - (63 - m)=m by omega,if_neg (by rw [hb2];decide)]at hz;refine sk (sq (bk (rg [] rfl ?_)));refine rg [] rfl ?_;refine ⟨m+1,?_,?_,?_⟩
         ·exact ⟨hm64,by rw [← hz,show 64 - (m+1)=63 - m by omega];omega⟩
         ·refine em [] trivial ⟨cq,cq,cq,tt⟩ trivial
         ·(try simp only []);first | omega | grind
        ·have hh:Il a (64 - m)=0:=by
          rcases Nat.lt_or_ge m 64 with h1 | h1
          ·have hb:uJ a m≠0:=by
            intro e;rw [e,show decide ((m:Int)<64)=true from decide_eq_true (by omega)]at h27;cases h27
           rw [jL a h1]at hb;have hb2:ig a m=true:=by cases hx:ig a m with | true=>rfl | false=>rw [hx]at hb;exact absurd rfl hb
           rw [show 64 - m=(63 - m)+1 by omega,Il,show 63 - (63 - m)=m by omega,if_pos hb2]
          ·rw [show 64 - m=0 by omega,Il]
         rw [hh,Nat.zero_add]at hz;refine xt (sq (rg [] rfl ?_));refine WP.ret ?_;change Fin ..;exact cZ hT (by rfl) (by rw [hz];exact Fp a)
      ·have n6:op≠6:=by simpa using h24
       refine sg rfl ?_;refine cd rfl (fun h31=>?_) (fun h31=>?_)
       ·have e:op=7:=by simpa using h31
        subst e;refine sg rfl ?_;refine sq (sq (rg [] rfl ?_));refine bk ?_;refine WP.loop (α:=Nat) (fun k=>aK [(1,.int a),(11,.int (wI (eX (fun k=>ig a (63 - k)) k))),(12,.int k)] []) (fun k=>k≤64) (fun k=>64 - k) ?_ ?_
        ·refine ⟨0,?_,?_⟩
         ·exact Nat.zero_le _
         ·refine em [] trivial ⟨cq,cq,cq,tt⟩ trivial
        ·rintro k hk;refine sq (sq (rg [] rfl ?_));refine cd rfl (fun h34=>?_) (fun h34=>?_)
         ·have hk64:k<64:=by simp at h34;omega
          have hw:=zx (fun k=>ig a (63 - k)) hk64;obtain ⟨j,hj⟩:∃ j,63 - k=j:=⟨_,rfl⟩;have e1:IntKind.i64.wrap (63 - (k:Int))=(j:Int):=by rw [bC (by omega) (by omega)];omega
          have hj64:j<64:=by omega
          simp only [hj]at hw;refine sk (sq (bk (rgs [CG.pure (.int (uJ a j)),CG.pure (.int (Py (wI (eX (fun k=>ig a (63 - k)) k)) k (uJ a j)))] rfl ?_ ?_)))
          ·have hq1:=mJ a j;have hq2:=rH (wI (eX (fun k=>ig a (63 - k)) k)) k (uJ a j)
           have hq1':AC Tryz.prog T bn 245 [.int a,.int (IntKind.i64.wrap (63 - (k:Int)))] [] (.int (uJ a j)) []:=by rw [e1];exact hq1
           simp only [ak,under,CG.pure]
           repeat' with_reducible refine And.intro ?_ ?_
           all_goals (try with_reducible intros)
           all_goals (first | exact trivial | assumption | omega | exact hq1' | exact hq2 | (simp;done) | grind)
          refine rg [] rfl ?_;refine ⟨k+1,?_,?_,?_⟩
          ·exact hk64
          ·refine em [] trivial ⟨cq,⟨rfl,_,rfl,ah (by rw [← hw,jL a hj64])⟩,cq,tt⟩ trivial
          ·(try simp only []);first | omega | grind
         ·have hk64:k=64:=by simp at h34;omega
          refine xt (sq (rg [] rfl ?_));refine WP.ret ?_;change Fin ..;exact cZ hT (by rfl) (by rw [hk64,UE a];simp [pK])
       ·have n7:op≠7:=by simpa using h31
        refine sg rfl ?_;refine cd rfl (fun h38=>?_) (fun h38=>?_)
        ·have e:op=8:=by simpa using h38
         subst e;refine sq (rgs [CG.pure (.int (mZ (a != 0)))] rfl ?_ ?_)
         ·have hq:=qZ (a != 0);exact au
         exact WP.ret (cZ hT (by rfl) rfl)
        ·have n8:op≠8:=by simpa using h38
         refine sg rfl ?_;refine cd rfl (fun h40=>?_) (fun h40=>?_)
         ·have e:op=9:=by simpa using h40
          subst e;refine sq (rgs [CG.pure (.int (mZ (a==0)))] rfl ?_ ?_)
          ·have hq:=qZ (a==0);exact au
          exact WP.ret (cZ hT (by rfl) rfl)
         ·have n9:op≠9:=by simpa using h40
          refine sg rfl ?_;refine cd rfl (fun h42=>?_) (fun h42=>?_)
          ·have e:op=10:=by simpa using h42
           subst e;refine sq (rgs [CG.pure (.int (wI (eX (lH a 8 true) 64)))] rfl ?_ ?_)
           ·have hq:=tq a 8 (by decide) true;exact au
           exact WP.ret (cZ hT (by rfl) (tZ a).1)
          ·have n10:op≠10:=by simpa using h42
           refine sg rfl ?_;refine cd rfl (fun h44=>?_) (fun h44=>?_)
           ·have e:op=11:=by simpa using h44
            subst e;refine sq (rgs [CG.pure (.int (wI (eX (lH a 16 true) 64)))] rfl ?_ ?_)
            ·have hq:=tq a 16 (by decide) true;exact au
            exact WP.ret (cZ hT (by rfl) (tZ a).2.1)
           ·have n11:op≠11:=by simpa using h44
            refine sg rfl ?_;refine cd rfl (fun h46=>?_) (fun h46=>?_)
            ·have e:op=12:=by simpa using h46
             subst e;refine sq (rgs [CG.pure (.int (wI (eX (lH a 32 true) 64)))] rfl ?_ ?_)
             ·have hq:=tq a 32 (by decide) true;exact au
             exact WP.ret (cZ hT (by rfl) (tZ a).2.2.1)
            ·have n12:op≠12:=by simpa using h46
             refine sg rfl ?_;refine cd rfl (fun h48=>?_) (fun h48=>?_)
             ·have e:op=13:=by simpa using h48
              subst e;refine sq (rgs [CG.pure (.int (wI (eX (lH a 8 false) 64)))] rfl ?_ ?_)
              ·have hq:=tq a 8 (by decide) false;exact au
              exact WP.ret (cZ hT (by rfl) (tZ a).2.2.2.1)
             ·have n13:op≠13:=by simpa using h48
              refine sg rfl ?_;refine cd rfl (fun h50=>?_) (fun h50=>?_)
              ·have e:op=14:=by simpa using h50
               subst e;refine sq (rgs [CG.pure (.int (wI (eX (lH a 16 false) 64)))] rfl ?_ ?_)
               ·have hq:=tq a 16 (by decide) false;exact au
               exact WP.ret (cZ hT (by rfl) (tZ a).2.2.2.2.1)
              ·have n14:op≠14:=by simpa using h50
               refine sk (sq (rgs [CG.pure (.int (wI (eX (lH a 32 false) 64)))] rfl ?_ ?_))
               ·have hq:=tq a 32 (by decide) false;exact au
               refine WP.ret ?_;change Fin ..;refine cZ hT (by rfl) ?_;rw [(tZ a).2.2.2.2.2];simp [pK,n1,n2,n3,n4,n5,n6,n7,n8,n9,n10,n11,n12,n13,n14]
theorem Tz (op a b:Int) (h:29≤op∧op≤36) (ha:inW a) (hb:inW b):AC Tryz.prog T bn 253 [.int op,.int a,.int b] [] (.int (qL op a b)) []:=by
 refine aA hT Tryz.func253 rfl rfl (Nat.le_of_ble_eq_true rfl) ?_;refine sg rfl ?_;refine sq (sq (rg [] rfl ?_));refine bk (sq (rg [] rfl ?_));refine cd rfl (fun h2=>?_) (fun h2=>?_)
 ·have e:op=29:=by simpa using h2
  subst e;refine sq (rgs [CG.pure (.int (mZ (a==b)))] rfl ?_ ?_)
  ·have hq:=qZ (a==b);exact au
  exact WP.ret (cZ hT (by rfl) rfl)
 ·have n29:op≠29:=by simpa using h2
  refine sg rfl ?_;refine cd rfl (fun h4=>?_) (fun h4=>?_)
  ·have e:op=30:=by simpa using h4
   subst e;refine sq (rgs [CG.pure (.int (mZ (a != b)))] rfl ?_ ?_)
   ·have hq:=qZ (a != b);exact au
   exact WP.ret (cZ hT (by rfl) rfl)
  ·have n30:op≠30:=by simpa using h4
   refine sg rfl ?_;refine cd rfl (fun h6=>?_) (fun h6=>?_)
   ·have e:op=31:=by simpa using h6
    subst e;refine sq (rgs [CG.pure (.int (mZ (decide (a<b))))] rfl ?_ ?_)
    ·have hq:=qZ (decide (a<b));exact au
    exact WP.ret (cZ hT (by rfl) rfl)
   ·have n31:op≠31:=by simpa using h6
    refine sg rfl ?_;refine cd rfl (fun h8=>?_) (fun h8=>?_)
    ·have e:op=32:=by simpa using h8
     subst e;refine sq (rgs [CG.pure (.int (mZ (decide (a≤b))))] rfl ?_ ?_)
     ·have hq:=qZ (decide (a≤b));exact au
     exact WP.ret (cZ hT (by rfl) rfl)
    ·have n32:op≠32:=by simpa using h8
     refine sg rfl ?_;refine cd rfl (fun h10=>?_) (fun h10=>?_)
     ·have e:op=33:=by simpa using h10
      subst e;refine sq (rgs [CG.pure (.int (mZ (decide (wU a<wU b))))] rfl ?_ ?_)
      ·have hq:=qZ (decide (wU a<wU b));exact au
      exact WP.ret (cZ hT (by rfl) rfl)
     ·have n33:op≠33:=by simpa using h10
      refine sg rfl ?_;refine cd rfl (fun h12=>?_) (fun h12=>?_)
      ·have e:op=34:=by simpa using h12
       subst e;refine sq (sq (rg [] rfl ?_));refine cd rfl (fun h13=>?_) (fun h13=>?_)
       ·refine sg rfl ?_;refine WP.ret ?_;change Fin ..;have hx:b<a:=by simpa using h13
        exact cZ hT (by rfl) (by rw [show qL 34 a b=(if b<a then b else a)from rfl,if_pos hx])
       ·refine sk (sq (rg [] rfl ?_));refine WP.ret ?_;change Fin ..;have hx:¬ b<a:=by simpa using h13
        exact cZ hT (by rfl) (by rw [show qL 34 a b=(if b<a then b else a)from rfl,if_neg hx])
      ·have n34:op≠34:=by simpa using h12
       refine sg rfl ?_;refine cd rfl (fun h16=>?_) (fun h16=>?_)
       ·have e:op=35:=by simpa using h16
        subst e;refine sq (sq (rg [] rfl ?_));refine cd rfl (fun h17=>?_) (fun h17=>?_)
        ·refine sg rfl ?_;refine WP.ret ?_;change Fin ..;have hx:b>a:=by simpa using h17
         exact cZ hT (by rfl) (by rw [show qL 35 a b=(if b>a then b else a)from rfl,if_pos hx])
        ·refine sk (sq (rg [] rfl ?_));refine WP.ret ?_;change Fin ..;have hx:¬ b>a:=by simpa using h17
         exact cZ hT (by rfl) (by rw [show qL 35 a b=(if b>a then b else a)from rfl,if_neg hx])
       ·have n35:op≠35:=by simpa using h16
        refine sk (sq (rgs [CG.pure (.tup [.int (wI (oh a b)),.v (.int .u64 (C9 a b))])] rfl ?_ ?_))
        ·have hq:=Ky a b ha hb;exact au
        refine sg rfl ?_;refine WP.ret ?_;change Fin ..;obtain rfl:op=36:=by omega
        exact cZ hT (by rfl) rfl
def zA (op a b:Int):Int×Int:=if op=19∨op=20 then EI op a b else if 25≤op∧op≤27 then shF op a b else (qL op a b,0)
theorem Xx {a b:Int} (ha:inW a) (hb:inW b):wI (C9 a b)=wI (a*b):=by
 have h1:=(Oj (b:=b) ha 64 (Nat.le_refl _)).2;rw [J5 hb,JY ha hb]at h1;simp only at h1;rw [h1,wI,wI,IntKind.wrap_i64,IntKind.wrap_i64];omega
theorem ZL (x:Int):(0≤x∧x.tmod 64=x % 64)∨(x<0∧x.tmod 64 = -((-x) % 64)):=by
 rcases Int.lt_or_le x 0 with h | h
 ·have h2:=Int.tmod_eq_emod_of_nonneg (a := -x) (b:=64) (by omega);rw [Int.neg_tmod]at h2;exact .inr ⟨h,by omega⟩
 ·exact .inl ⟨h,Int.tmod_eq_emod_of_nonneg h⟩
theorem Zk {a b:Int} (ha:inW a) (h0:b≠0) (h1:b ≠ -1):inW (a.tdiv b)∧inW (a.tdiv b*b)∧a.tmod b=a - a.tdiv b*b:=by
 have e:=Int.tmod_def a b;rw [Int.mul_comm]at e;obtain ⟨g1,g2⟩:=ha;have hm:=Int.natAbs_tmod a b
 have hd:(a.tdiv b).natAbs=a.natAbs / b.natAbs:=Int.natAbs_tdiv a b;have hml:a.natAbs % b.natAbs≤a.natAbs:=Nat.mod_le _ _
 have hs:(0≤a→0≤a.tmod b)∧(a≤0→a.tmod b≤0):=by
  refine ⟨fun h=>Int.tmod_nonneg b h,fun h=>?_⟩;have h2:=Int.tmod_nonneg b (a := -a) (by omega)
  rw [Int.neg_tmod]at h2;omega
 refine ⟨?_,?_,e⟩
 ·rcases Nat.lt_or_ge b.natAbs 2 with h2 | h2
  ·obtain rfl:b=1:=by omega
   rw [Int.tdiv_one];exact ⟨g1,g2⟩
  ·have h3:a.natAbs / b.natAbs≤a.natAbs / 2:=Nat.div_le_div_left h2 (by decide);rw [← hd]at h3;clear hm hml hd hs e;constructor <;> omega
 ·obtain ⟨s1,s2⟩:=hs;rcases Int.le_total 0 a with h | h
  ·have:=s1 h;constructor <;> omega
  ·have:=s2 h;constructor <;> omega
theorem WM (op a b:Int) (h:16≤op∧op≤36) (ha:inW a) (hb:inW b):AC Tryz.prog T bn 208 [.int op,.int a,.int b] [] (.tup [.int (zA op a b).1,.int (zA op a b).2]) []:=by
 refine aA hT Tryz.func208 rfl rfl (Nat.le_of_ble_eq_true rfl) ?_;refine sg rfl ?_;refine sq (sq (rg [] rfl ?_));refine bk (sq (rg [] rfl ?_));refine cd rfl (fun h2=>?_) (fun h2=>?_)
 ·have e:op=16:=by simpa using h2
  subst e;refine sg rfl ?_;exact WP.ret (jY (by rfl) (by rfl) rfl rfl)
 ·have n16:op≠16:=by simpa using h2
  refine sg rfl ?_;refine cd rfl (fun h4=>?_) (fun h4=>?_)
  ·have e:op=17:=by simpa using h4
   subst e;refine sg rfl ?_;exact WP.ret (jY (by rfl) (by rfl) rfl rfl)
  ·have n17:op≠17:=by simpa using h4
   refine sg rfl ?_;refine cd rfl (fun h6=>?_) (fun h6=>?_)
   ·have e:op=18:=by simpa using h6
    subst e;refine sq (rgs [CG.pure (.tup [.int (wI (oh a b)),.v (.int .u64 (C9 a b))])] rfl ?_ ?_)
    ·have hq:=Ky a b ha hb;exact au
    refine sg rfl ?_;refine WP.ret ?_;change Fin ..;refine jY (by rfl) (by rfl) rfl ?_;rw [show zA 18 a b=(wI (a*b),0)from rfl,← Xx ha hb]
   ·have n18:op≠18:=by simpa using h6
    refine WP.seqJ (α:=Bool) (fun d=>aK [(0,.int op),(1,.int a),(2,.int b),(12,.int op),(33,.bool d)] []) (fun d=>d=decide (op=19∨op=20)) ?_ ?_
    ·refine sg rfl ?_;refine cd rfl (fun h9=>?_) (fun h9=>?_)
     ·have e19:op=19:=by simpa using h9
      refine sk ?_;refine ⟨(op==19),?_,?_⟩
      ·rw [Bool.eq_iff_iff];simp;omega
      ·refine em [] trivial ⟨cq,cq,cq,cq,cq,tt⟩ trivial
     ·have n19:op≠19:=by simpa using h9
      refine rg [] rfl ?_;refine ⟨(op==20),?_,?_⟩
      ·rw [Bool.eq_iff_iff];simp;omega
      ·refine em [] trivial ⟨cq,cq,cq,cq,cq,tt⟩ trivial
    ·rintro d hd;refine cd rfl (fun h10=>?_) (fun h10=>?_)
     ·have hdv:op=19∨op=20:=by rw [h10]at hd;simpa using hd.symm
      have e2:zA op a b=EI op a b:=if_pos hdv;refine sq (sq (rg [] rfl ?_));refine cd rfl (fun h11=>?_) (fun h11=>?_)
      ·have hb0:b=0:=by simpa using h11
       refine sg rfl ?_;exact WP.ret (jY (by rfl) (by rfl) rfl (by rw [e2,EI,if_pos hb0]))
      ·have hb0:b≠0:=by simpa using h11
       refine sk (sq (sq (rg [] rfl ?_)));refine cd rfl (fun h13=>?_) (fun h13=>?_)
       ·have hb1:b = -1:=by simpa using h13
        refine sq (sq (rg [] rfl ?_));refine cd rfl (fun h14=>?_) (fun h14=>?_)
        ·have e19:op=19:=by simpa using h14
         refine sg rfl ?_;refine WP.ret ?_;change Fin ..;refine jY (by rfl) (by rfl) rfl ?_;rw [e2,EI,if_neg hb0,if_pos ⟨e19,hb1⟩,Int.zero_sub]
        ·have n19:op≠19:=by simpa using h14
         refine sk (sq (rg [] rfl ?_));exact WP.ret (jY (by rfl) (by rfl) rfl (by rw [e2,EI,if_neg hb0,if_neg (fun h=>n19 h.1),if_neg n19,if_pos hb1]))
       ·have hb1:b ≠ -1:=by simpa using h13
        obtain ⟨d1,d2,d3⟩:=Zk ha hb0 hb1;refine sk (sq (sq (rg [] rfl ?_)));refine cd rfl (fun h17=>?_) (fun h17=>?_)
        ·have e19:op=19:=by simpa using h17
         refine sq (rgs [] rfl ?_ ?_)
         ·exact au
         exact WP.ret (jY (by rfl) (by rfl) rfl (by rw [e2,EI,if_neg hb0,if_neg (fun h=>hb1 h.2),if_pos e19]))
        ·have n19:op≠19:=by simpa using h17
         refine sk (sq (rgs [] rfl ?_ ?_))
         ·exact au
         refine WP.ret ?_;change Fin ..;refine jY (by rfl) (by rfl) rfl ?_;rw [e2,EI,if_neg hb0,if_neg (fun h=>hb1 h.2),if_neg n19,if_neg hb1];show (IntKind.i64.wrap (a - IntKind.i64.wrap (IntKind.i64.wrap (a.tdiv b)*b)),(0:Int))=_
         rw [bC d1.1 (by have:=d1.2;omega),bC d2.1 (by have:=d2.2;omega),← d3,bC]
         ·have:=Int.natAbs_tmod a b;have hml:a.natAbs % b.natAbs≤a.natAbs:=Nat.mod_le _ _
          obtain ⟨g1,g2⟩:=ha;have hs:=fun h=>Int.tmod_nonneg b (a := -a) h
          rw [Int.neg_tmod]at hs;rcases Int.le_total 0 a with h | h
          ·have:=Int.tmod_nonneg b h;omega
          ·omega
         ·have:=Int.natAbs_tmod a b;have hml:a.natAbs % b.natAbs≤a.natAbs:=Nat.mod_le _ _
          obtain ⟨g1,g2⟩:=ha;have hs:=fun h=>Int.tmod_nonneg b (a := -a) h
          rw [Int.neg_tmod]at hs;rcases Int.le_total 0 a with h | h
          ·omega
          ·have:=hs (by omega);omega
     ·have ndv:¬ (op=19∨op=20):=by rw [h10]at hd;simpa using hd.symm
      refine WP.seqJ (α:=Bool) (fun d=>aK [(0,.int op),(1,.int a),(2,.int b),(12,.int op),(56,.bool d)] []) (fun d=>d=decide (21≤op∧op≤24)) ?_ ?_
      ·refine sg rfl ?_;refine cd rfl (fun h20=>?_) (fun h20=>?_)
       ·have e21:op=21:=by simpa using h20
        refine sk ?_;refine ⟨(op==21),?_,?_⟩
        ·rw [Bool.eq_iff_iff];simp;omega
        ·refine em [] trivial ⟨cq,cq,cq,cq,cq,tt⟩ trivial
       ·have n21:op≠21:=by simpa using h20
        refine sg rfl ?_;refine cd rfl (fun h21=>?_) (fun h21=>?_)
        ·have e22:op=22:=by simpa using h21
         refine sk ?_;refine ⟨(op==22),?_,?_⟩
         ·rw [Bool.eq_iff_iff];simp;omega
         ·refine em [] trivial ⟨cq,cq,cq,cq,cq,tt⟩ trivial
        ·have n22:op≠22:=by simpa using h21
         refine sg rfl ?_;refine cd rfl (fun h22=>?_) (fun h22=>?_)
         ·have e23:op=23:=by simpa using h22
          refine sk ?_;refine ⟨(op==23),?_,?_⟩
          ·rw [Bool.eq_iff_iff];simp;omega
          ·refine em [] trivial ⟨cq,cq,cq,cq,cq,tt⟩ trivial
         ·have n23:op≠23:=by simpa using h22
          refine rg [] rfl ?_;refine ⟨(op==24),?_,?_⟩
          ·rw [Bool.eq_iff_iff];simp;omega
          ·refine em [] trivial ⟨cq,cq,cq,cq,cq,tt⟩ trivial
      ·rintro d hd2;refine cd rfl (fun h23=>?_) (fun h23=>?_)
       ·have hlg:21≤op∧op≤24:=by rw [h23]at hd2;simpa using hd2.symm
        refine sq (rgs [CG.pure (.int (qL op a b))] rfl ?_ ?_)
        ·have hq:=TM op a b hlg;exact au
        exact WP.ret (jY (by rfl) (by rfl) rfl (by rw [zA,if_neg ndv,if_neg (by omega)]))
       ·have nlg:¬ (21≤op∧op≤24):=by rw [h23]at hd2;simpa using hd2.symm
        refine WP.seqJ (α:=Bool) (fun d=>aK [(0,.int op),(1,.int a),(2,.int b),(12,.int op),(65,.bool d)] []) (fun d=>d=decide (25≤op∧op≤27)) ?_ ?_
        ·refine sg rfl ?_;refine cd rfl (fun h25=>?_) (fun h25=>?_)
         ·have e25:op=25:=by simpa using h25
          refine sk ?_;refine ⟨(op==25),?_,?_⟩
          ·rw [Bool.eq_iff_iff];simp;omega
          ·refine em [] trivial ⟨cq,cq,cq,cq,cq,tt⟩ trivial
         ·have n25:op≠25:=by simpa using h25
          refine sg rfl ?_;refine cd rfl (fun h26=>?_) (fun h26=>?_)
          ·have e26:op=26:=by simpa using h26
           refine sk ?_;refine ⟨(op==26),?_,?_⟩
           ·rw [Bool.eq_iff_iff];simp;omega
           ·refine em [] trivial ⟨cq,cq,cq,cq,cq,tt⟩ trivial
          ·have n26:op≠26:=by simpa using h26
           refine rg [] rfl ?_;refine ⟨(op==27),?_,?_⟩
           ·rw [Bool.eq_iff_iff];simp;omega
           ·refine em [] trivial ⟨cq,cq,cq,cq,cq,tt⟩ trivial
        ·rintro d hd3;refine cd rfl (fun h27=>?_) (fun h27=>?_)
         ·have hsh:25≤op∧op≤27:=by rw [h27]at hd3;simpa using hd3.symm
          have e2:zA op a b=shF op a b:=by rw [zA,if_neg ndv,if_pos hsh]
          refine sq (sq (rg [] rfl ?_));refine cd rfl (fun h28=>?_) (fun h28=>?_)
          ·have hb0:b<0:=by simpa using h28
           refine sg rfl ?_;exact WP.ret (jY (by rfl) (by rfl) rfl (by rw [e2,shF,if_pos hb0]))
          ·have hb0:¬ b<0:=by simp at h28;omega
           obtain ⟨n,f1,f2,f3,f4⟩:=ZX hb (by omega);have hq1:=W9 b
           rw [f2]at hq1;have f5:IntKind.i64.wrap (-(n:Int)) = -(n:Int):=bC (by omega) (by omega)
           refine sk (sq (sq (rg [] rfl ?_)));refine cd rfl (fun h30=>?_) (fun h30=>?_)
           ·have e25:op=25:=by simpa using h30
            refine sq (rgs [CG.pure (.int n),CG.pure (.int (wI (eX (BJ a n false) 64)))] rfl ?_ ?_)
            ·have hq2:=zK a n false (by omega);exact au
            exact WP.ret (jY (by rfl) (by rfl) rfl (by rw [e2,shF,if_neg hb0,if_pos e25,f3,WH]))
           ·have n25:op≠25:=by simpa using h30
            refine sk (sq (sq (rg [] rfl ?_)));refine cd rfl (fun h32=>?_) (fun h32=>?_)
            ·have e26:op=26:=by simpa using h32
             refine sq (rgs [CG.pure (.int n),CG.pure (.int (mZ (ig a 63))),CG.pure (.int (wI (eX (BJ a (-(n:Int)) (ig a 63)) 64)))] rfl ?_ ?_)
             ·have hq2:=mJ a (63:Nat);rw [jL a (by decide)]at hq2;have hq3:AC Tryz.prog T bn 251 [.int a,.int (IntKind.i64.wrap (-(n:Int))),.int (mZ (ig a 63))] [] (.int (wI (eX (BJ a (-(n:Int)) (ig a 63)) 64))) []:=by rw [f5];exact zK a (-(n:Int)) (ig a 63) (by omega)
              exact au
             exact WP.ret (jY (by rfl) (by rfl) rfl (by rw [e2,shF,if_neg hb0,if_neg n25,if_pos e26,f3,OD ha]))
            ·have n26:op≠26:=by simpa using h32
             refine sk (sq (rgs [CG.pure (.int n),CG.pure (.int (wI (eX (BJ a (-(n:Int)) false) 64)))] rfl ?_ ?_))
             ·have hq3:AC Tryz.prog T bn 251 [.int a,.int (IntKind.i64.wrap (-(n:Int))),.int 0] [] (.int (wI (eX (BJ a (-(n:Int)) false) 64))) []:=by rw [f5];exact zK a (-(n:Int)) false (by omega)
              exact au
             exact WP.ret (jY (by rfl) (by rfl) rfl (by rw [e2,shF,if_neg hb0,if_neg n25,if_neg n26,f3,Si]))
         ·have nsh:¬ (25≤op∧op≤27):=by rw [h27]at hd3;simpa using hd3.symm
          refine sg rfl ?_;refine cd rfl (fun h35=>?_) (fun h35=>?_)
          ·have e:op=28:=by simpa using h35
           subst e;refine sg rfl ?_;refine sq (sq (rg [] rfl ?_));refine bk ?_;refine WP.loop (α:=Nat) (fun k=>aK [(0,.int 28),(1,.int a),(2,.int b),(10,.int (wI (eX (fun k=>ig a ((k+64 - (b % 64).toNat) % 64)) k))),(11,.int k)] []) (fun k=>k≤64) (fun k=>64 - k) ?_ ?_
           ·refine ⟨0,?_,?_⟩
            ·exact Nat.zero_le _
            ·refine em [] trivial ⟨cq,cq,cq,cq,cq,tt⟩ trivial
           ·rintro k hk;refine sq (sq (rg [] rfl ?_));refine cd rfl (fun h38=>?_) (fun h38=>?_)
            ·have hk64:k<64:=by simp at h38;omega
             have hw:=zx (fun k=>ig a ((k+64 - (b % 64).toNat) % 64)) hk64;obtain ⟨j,hj⟩:∃ j,(k+64 - (b % 64).toNat) % 64=j:=⟨_,rfl⟩;have hj64:j<64:=by omega
             simp only [hj]at hw;have hm1:=ZL b
             have hE:(IntKind.i64.wrap ((IntKind.i64.wrap ((k:Int) - b.tmod 64)).tmod 64+64)).tmod 64=(j:Int):=by
              rw [bC (n:=(k:Int) - b.tmod 64) (by omega) (by omega)];have hm2:=ZL ((k:Int) - b.tmod 64)
              rw [bC (by omega) (by omega)];have hm3:=ZL (((k:Int) - b.tmod 64).tmod 64+64)
              omega
             refine sk (sq (bk (rgs [CG.pure (.int (uJ a j)),CG.pure (.int (Py (wI (eX (fun k=>ig a ((k+64 - (b % 64).toNat) % 64)) k)) k (uJ a j)))] rfl ?_ ?_)))
             ·have hq1:=mJ a j;have hq2:=rH (wI (eX (fun k=>ig a ((k+64 - (b % 64).toNat) % 64)) k)) k (uJ a j)
              have hq1':AC Tryz.prog T bn 245 [.int a,.int ((IntKind.i64.wrap ((IntKind.i64.wrap ((k:Int) - b.tmod 64)).tmod 64+64)).tmod 64)] [] (.int (uJ a j)) []:=by rw [hE];exact hq1
              simp only [ak,under,CG.pure]
              repeat' with_reducible refine And.intro ?_ ?_
              all_goals (try with_reducible intros)
              all_goals (first | exact trivial | assumption | omega | exact hq1' | exact hq2 | (simp;done) | grind)
             refine rg [] rfl ?_;refine ⟨k+1,?_,?_,?_⟩
             ·exact hk64
             ·refine em [] trivial ⟨cq,cq,cq,⟨rfl,_,rfl,ah (by rw [← hw,jL a hj64])⟩,cq,tt⟩ trivial
             ·(try simp only []);first | omega | grind
            ·have hk64:k=64:=by simp at h38;omega
             refine xt (sq (rg [] rfl ?_));exact WP.ret (jY (by rfl) (by rfl) rfl (by rw [hk64,show zA 28 a b=(qL 28 a b,0)from rfl,WQ]))
          ·have n28:op≠28:=by simpa using h35
           refine sk (sq (rgs [CG.pure (.int (qL op a b))] rfl ?_ ?_))
           ·have hq:=Tz op a b (by omega) ha hb;exact au
           exact WP.ret (jY (by rfl) (by rfl) rfl (by rw [zA,if_neg ndv,if_neg nsh]))
theorem FW (op a b:Int) (ha:inW a) (hb:inW b):AC Tryz.prog T bn 146 [.int op,.int a,.int b] [] (.tup [.int (o8 op a b).1,.int (o8 op a b).2]) []:=by
 refine aA hT Tryz.func146 rfl rfl (Nat.le_of_ble_eq_true rfl) ?_;refine sg rfl ?_;refine sq (sq (rgs [CG.pure (.int (jJ op))] rfl ?_ ?_))
 ·have hq:=Px op;exact au
 refine bk (sq (rg [] rfl ?_));refine cd rfl (fun h2=>?_) (fun h2=>?_)
 ·have e0:jJ op=0:=by simpa using h2
  refine sg rfl ?_;exact WP.ret (jY (by rfl) (by rfl) rfl (by rw [o8,if_pos e0]))
 ·have n0:jJ op≠0:=by simpa using h2
  refine sg rfl ?_;refine cd rfl (fun h4=>?_) (fun h4=>?_)
  ·have e1:jJ op=1:=by simpa using h4
   refine sq (rgs [CG.pure (.int (pK op a))] rfl ?_ ?_)
   ·have hq:=WT op a;exact au
   exact WP.ret (jY (by rfl) (by rfl) rfl (by rw [o8,if_neg n0,if_pos e1]))
  ·have n1:jJ op≠1:=by simpa using h4
   refine sk (sq (rgs [CG.pure (.tup [.int (zA op a b).1,.int (zA op a b).2])] rfl ?_ ?_))
   ·have hq:=WM op a b (by
     unfold jJ at n0 n1;by_cases h1:1≤op∧op≤15
     ·rw [if_pos h1]at n1;exact absurd rfl n1
     ·by_cases h2:16≤op∧op≤36
      ·exact h2
      ·rw [if_neg h1,if_neg h2]at n0;exact absurd rfl n0) ha hb
    exact au
   refine WP.ret ?_;change Fin ..;exact jY (by rfl) (by rfl) rfl (by rw [o8,if_neg n0,if_neg n1];rfl)
theorem pU {a:Int} (h1 : -100≤a) (h2:a≤100):inW a:=⟨by omega,by omega⟩
theorem VQ (b:Bool):inW (mZ b):=by cases b <;> decide
theorem VT {c:Prop} [Decidable c] {x y:Int} (h1:inW x) (h2:inW y):inW (if c then x else y):=by split <;> assumption
theorem YV {op a:Int} (ha:inW a):inW (pK op a):=by
 unfold pK;have hb:Go.Lib.bitLen (wU a).toNat≤64:=Go.Lib.bitLen_le _ 64 (by decide) (by have:=um a;omega)
 have hc:Go.Lib.ctz 64 (wU a).toNat≤64:=by
  have h0:=Fp a;rw [show pK 6 a=((Go.Lib.ctz 64 (wU a).toNat:Nat):Int)from rfl]at h0;have:∀ k,Il a k≤k:=fun k=>by
   induction k with
   | zero=>exact Nat.le_refl _
   | succ k ih=>rw [Il];split <;> omega
  have:=this 64;omega
 rw [ZB,Jh,Zp]
 repeat' first | exact qh _ | exact ha | exact VQ _ | exact ⟨by omega,by omega⟩ | refine VT ?_ ?_
theorem Yx {op a b:Int} (ha:inW a) (hb:inW b):inW (qL op a b):=by
 unfold qL;rw [Zp a b,aak,ZB,aal]
 repeat' first | exact qh _ | exact ha | exact hb | exact VQ _ | refine VT ?_ ?_
theorem Zq {op a b:Int} (ha:inW a) (hb:inW b):inW (o8 op a b).1:=by
 unfold o8;split
 ·exact pU (by decide) (by decide)
 split
 ·exact YV ha
 split
 ·unfold EI;split
  ·exact pU (by decide) (by decide)
  split
  ·exact qh _
  split
  ·exact qh _
  split
  ·exact pU (by decide) (by decide)
  ·obtain ⟨g1,g2⟩:=ha;have:=Int.natAbs_tmod a b;have hml:a.natAbs % b.natAbs≤a.natAbs:=Nat.mod_le _ _
   have hs:=fun h=>Int.tmod_nonneg b (a := -a) h;rw [Int.neg_tmod]at hs;rcases Int.le_total 0 a with h | h
   ·have:=Int.tmod_nonneg b h;constructor <;> omega
   ·have:=hs (by omega);constructor <;> omega
 split
 ·unfold shF;split
  ·exact pU (by decide) (by decide)
  split
  ·exact qh _
  split
  ·rw [← OD ha];exact qh _
  ·exact qh _
 ·exact Yx ha hb
def okW (g:PGo):Prop := ∀ r∈g.regs,inW r
theorem yg {g:PGo} (h:okW g) (r:Int):inW (bZ g r):=by
 unfold bZ;rw [List.getD_eq_getElem?_getD];rcases Nat.lt_or_ge r.toNat g.regs.length with h1 | h1
 ·rw [List.getElem?_eq_getElem h1];exact h _ (List.getElem_mem _)
 ·rw [List.getElem?_eq_none h1];exact pU (by decide) (by decide)
theorem DR {g:PGo} (h:okW g) (r:Int) {v:Int} (hv:inW v):okW (yI g r v):=fun x hx=>by
 rcases List.mem_or_eq_of_mem_set hx with h1 | rfl
 ·exact h x h1
 ·exact hv
theorem Ee (g:PGo) (a b:Int):okW (ou g a b):=fun x hx=>by
 have:x=0:=by simpa [ou,z8]using hx
 subst this;exact pU (by decide) (by decide)
theorem Y4 {g:PGo} (h:okW g) (x:jR):inW (La g x).1:=by
 refine Zq (yg h _) ?_;split
 ·exact yg h _
 ·exact pU (by decide) (by decide)
theorem VO {g:PGo} (h:okW g) {x:jR} (hx:inW x.n):okW (oP g x):=by
 have hp:∀ n,okW { g with pc:=n}:=fun _=>h;unfold oP
 repeat' split
 all_goals first | exact Ee _ _ _ | exact hp _ | exact DR (hp _) _ hx | exact DR (hp _) _ (yg h _) | exact DR (hp _) _ (Y4 h _)
def YJ (F:iL):Prop := ∀ x∈F.code,inW x.n
theorem Wq {F:iL} (h:YJ F) (g:PGo):inW (atF F g).n:=by
 unfold atF;rw [List.getD_eq_getElem?_getD];rcases Nat.lt_or_ge g.pc.toNat F.code.length with h1 | h1
 ·rw [List.getElem?_eq_getElem h1];exact h _ (List.getElem_mem _)
 ·rw [List.getElem?_eq_none h1];exact pU (by decide) (by decide)
theorem IV {F:iL} (hF:YJ F):∀ (n:Nat) {g:PGo},okW g→okW (qg F n g)
 | 0,g,h=>by rw [qg];split <;> exact h
 | n+1,g,h=>by
  rw [qg];split
  ·exact IV hF n (VO h (Wq hF g))
  ·exact h
theorem aF (x y:AV):x.put [] y=y:=by cases x <;> rfl
theorem vX (g:PGo) (st why:Int):AC Tryz.prog T bn 147 [bP g,.int st,.int why] [] (bP (ou g st why)) []:=by
 refine aA hT Tryz.func147 rfl rfl (Nat.le_of_ble_eq_true rfl) ?_;refine sg rfl ?_;refine sg rfl ?_;refine WP.ret ?_;change Fin ..;refine aO hT rfl rfl rfl rfl rfl (ah ?_) rfl rfl rfl;exact (aF _ _).trans (bg fun q=>by match q with | 0 | 1 | 2 | 3=>rfl | 4=>exact E8 _ | q+5=>rfl)
theorem SX {F:iL} {g:PGo} (h:g.status≠1):∀ n,qg F n g=g
 | 0=>by rw [qg,if_neg (by unfold Kz;simp [h])]
 | n+1=>by rw [qg,if_neg (by unfold Kz;simp [h])]
theorem zL (p:ay) (g:PGo) (n:Nat) (hp:qV p) (hb:bQ g.func p.funcs.length) (hg:BL (dN p g) g) (hw:okW g) (hc:YJ (dN p g)) (hn:n≤4096):AC Tryz.prog T bn 103 [aj p,bP g,.int n] [] (bP (qg (dN p g) n { g with status:=1})) []:=by
 refine aA hT Tryz.func103 rfl rfl (Nat.le_of_ble_eq_true rfl) ?_;have hF:Dw p (dN p g):=hp.fn _ (by
  unfold bQ at hb;rw [dN,List.getD_eq_getElem?_getD,List.getElem?_eq_getElem (show g.func.toNat<p.funcs.length by omega)];exact List.getElem_mem _)
 have hcl:=hF.code;refine sg rfl ?_;refine sg rfl ?_;refine bk ?_;refine WP.loop (α:=Nat×PGo) (fun (⟨k,x⟩:Nat×PGo)=>aK [(2,.int k),(3,.rp 26 (aj p)),(4,.ptr (.s 4 0) 1 0 []),(6,.ptr (.s 6 0) 1 0 [])] [(.s 4 0,.cells ⟨59,1,fun _=>bP x,0⟩),(.s 6 0,.cells ⟨59,1,fun _=>(T 59).zero,0⟩)]) (fun (⟨k,x⟩:Nat×PGo)=>qg (dN p g) k x=qg (dN p g) n { g with status:=1}∧BL (dN p g) x∧k≤n∧x.status=1∧okW x∧x.func=g.func) (fun (⟨k,x⟩:Nat×PGo)=>k) ?_ ?_
 ·refine ⟨⟨n,{ g with status:=1}⟩,?_,?_⟩
  ·exact ⟨rfl,hg,Nat.le_refl _,rfl,hw,rfl⟩
  ·refine em [(.s 3 0,1)] ⟨sF,tt⟩ ⟨cq,rq,cq,cq,tt⟩ ⟨obs rfl (hg:=q0 (ah (dV g 1))),obs rfl,tt⟩
 ·rintro ⟨k,x⟩ ⟨hs,hx,hk,hx1,hxw,hxf⟩;have hpc:=hx.2
  have hb2:=hb;simp only [bQ]at hpc hb2;have hff:dN p x=dN p g:=by unfold dN;rw [hxf]
  refine bk (sq (drs [] rfl ?_ ?_))
  ·rw [show (dN p g).code.length=(dN p x).code.length by rw [hff]]at hpc;rw [← hxf]at hb2;exact au
  refine sq (sq ?_);obtain ⟨i,hi⟩:∃ i,atF (dN p g) x=i:=⟨_,rfl⟩;have hin:=Gw hF hx.2
  have hiw:=Wq hc x;rw [show (dN p g).code.getD x.pc.toNat qR=i from hi]at hin;rw [hi]at hiw;refine WP.ent (st':=aK [(2,.int k),(3,.rp 26 (aj p)),(4,.ptr (.s 4 0) 1 0 []),(6,.ptr (.s 6 0) 1 0 []),(7,.rp 120 (aP i))] [(.s 4 0,.cells ⟨59,1,fun _=>bP x,0⟩),(.s 6 0,.cells ⟨59,1,fun _=>(T 59).zero,0⟩)]) ?_ ?_
  ·refine em [(.s 7 0,1)] ⟨sF,tt⟩ ⟨cq,cq,cq,cq,⟨rfl,_,rfl,aZ rfl rfl (by decide) rfl (by rw [← hi,← hff];rfl) rfl⟩,tt⟩ ⟨obs rfl,obs rfl,tt⟩
  refine rgs [CG.pure (.bool (su i.op))] rfl ?_ ?_
  ·have hq:=zN i.op;exact au
  refine cd rfl (fun h3=>?_) (fun h3=>?_)
  ·have hl:su i.op=false:=by simpa using h3
   refine sg rfl ?_;refine WP.ret ?_;change Fin ..;refine aO hT rfl rfl rfl rfl rfl (ah ?_) rfl rfl rfl;have e:qg (dN p g) k x=x:=by
    have hr:Kz (dN p g) x=false:=by unfold Kz;rw [hi,hl,Bool.and_false]
    cases k <;> rw [qg,if_neg (by rw [hr];decide)]
   rw [← hs,e];exact aF _ _
  ·have hl:su i.op=true:=by simpa using h3
   have hr:Kz (dN p g) x=true:=by unfold Kz;rw [hi,hl,hx1];rfl
   have hg8:x.regs.length=8:=hx.1;have hrr:=hF.regs
   have hn:=hin.num;have hn2:=hin.num2;have hcn:=hin.const;have hmv:=hin.move;have hj:=hin.jump;have hcd:=hin.cond
   simp only [lq,bQ]at hn hn2 hcn hmv hj hcd;refine sk (sq (sq (rg [] rfl ?_)));refine cd rfl (fun h5=>?_) (fun h5=>?_)
   ·have hk0:k=0:=by simp at h5;omega
    subst hk0;refine sg rfl ?_;refine sg rfl ?_;refine WP.ret ?_;change Fin ..;refine aO hT rfl rfl rfl rfl rfl (ah ?_) rfl rfl rfl;rw [← hs,qg,if_pos hr];exact (aF _ _).trans (dV _ _)
   ·have hk0:0<k:=by simp at h5;omega
    obtain ⟨j,rfl⟩:∃ j,k=j+1:=⟨k - 1,by omega⟩;rw [qg,if_pos hr,hi]at hs;have hend:∀ a b:Int,a≠1→oP x i=ou x a b→qg (dN p g) n { g with status:=1}=ou x a b:=fun a b ha hl=>by rw [← hs,hl];exact SX ha _
    have hnx:∀ y,oP x i=y→y.status=1→qg (dN p g) j y=qg (dN p g) n { g with status:=1}∧BL (dN p g) y∧j≤n∧y.status=1∧okW y∧y.func=g.func:=fun y e h1=>by
     subst e;have h2:=Ap hF hx (by rw [hi];exact hl)
     rw [hi]at h2;exact ⟨hs,h2.1,by omega,h1,VO hxw hiw,h2.2.trans hxf⟩
    have hlo:1≤i.op∧(i.op≤36∨40≤i.op)∧i.op≤45:=by simp [su]at hl;omega
    have hpx:0≤x.pc∧x.pc<64:=by omega
    refine sk (sq (rg [] rfl ?_));refine sq (bk (sq (rg [] rfl ?_)));refine cd rfl (fun h10=>?_) (fun h10=>?_)
    ·have hop:i.op≤15:=by simpa using h10
     have hnm:=hn (by omega);have hnf:La x i=o8 i.op (bZ x i.b) 0:=by rw [La,if_neg (by omega)]
     have hae:(o8 i.op (bZ x i.b) 0).2=0:=by
      have ha:jJ i.op=1:=by rw [jJ,if_pos (by omega)]
      rw [o8,if_neg (by omega),if_pos ha]
     have hloc:oP x i=yI { x with pc:=x.pc+1} i.a (o8 i.op (bZ x i.b) 0).1:=by
      rw [oP,if_neg (by omega),if_neg (by omega),if_neg (by omega),if_neg (by omega),if_neg (by omega),if_neg (by omega),hnf,hae,if_neg (by decide),if_neg (by decide)]
     refine sq (drs [CG.pure (.tup [.int (o8 i.op (bZ x i.b) 0).1,.int (o8 i.op (bZ x i.b) 0).2])] rfl ?_ ?_)
     ·have hq:=FW i.op (bZ x i.b) 0 (yg hxw _) (pU (by decide) (by decide));exact au
     refine rgs [] rfl ?_ ?_
     ·exact au
     refine rg [] rfl ?_;refine ⟨⟨j,yI { x with pc:=x.pc+1} i.a (o8 i.op (bZ x i.b) 0).1⟩,?_,?_,?_⟩
     ·exact hnx _ hloc hx1
     ·refine em [] trivial ⟨⟨rfl,_,rfl,ah (by rw [bC (by omega) (by omega)];simp)⟩,cq,cq,cq,tt⟩ ⟨obs rfl (hg:=q0 (ah ((congrArg (fun z=>AV.put z [2] (.int (IntKind.i64.wrap (x.pc+1)))) (jc (g:=x) (k:=i.a.toNat) (o8 i.op (bZ x i.b) 0).1 (by omega))).trans (Aw (g:={ x with regs:=x.regs.set i.a.toNat (o8 i.op (bZ x i.b) 0).1}) hpx)))),obs rfl,tt⟩
     ·(try simp only []);first | omega | grind
    ·have hop:¬ i.op≤15:=by simpa using h10
     refine sg rfl ?_;refine cd rfl (fun h13=>?_) (fun h13=>?_)
     ·have hop2:i.op≤36:=by simpa using h13
      have hnm:=hn (by omega);have hnm2:=hn2 (by omega)
      have hnf:La x i=o8 i.op (bZ x i.b) (bZ x i.c):=by rw [La,if_pos (by omega)]
      have hloc:oP x i=if (o8 i.op (bZ x i.b) (bZ x i.c)).2=20 then ou x 4 2 else if (o8 i.op (bZ x i.b) (bZ x i.c)).2=21 then ou x 4 3 else yI { x with pc:=x.pc+1} i.a (o8 i.op (bZ x i.b) (bZ x i.c)).1:=by
       rw [oP,if_neg (by omega),if_neg (by omega),if_neg (by omega),if_neg (by omega),if_neg (by omega),if_neg (by omega),hnf]
      refine sq (drs [CG.pure (.tup [.int (o8 i.op (bZ x i.b) (bZ x i.c)).1,.int (o8 i.op (bZ x i.b) (bZ x i.c)).2])] rfl ?_ ?_)
      ·have hq:=FW i.op (bZ x i.b) (bZ x i.c) (yg hxw _) (yg hxw _);exact au
      refine sq (sq (rg [] rfl ?_));refine cd rfl (fun h15=>?_) (fun h15=>?_)
      ·have he:(o8 i.op (bZ x i.b) (bZ x i.c)).2=20:=by simpa using h15
       rw [if_pos he]at hloc;refine sq (rgs [CG.pure (bP (ou x 4 2))] rfl ?_ ?_)
       ·have hq:=vX x 4 2;exact au
       refine WP.ret ?_;change Fin ..;refine aO hT rfl rfl rfl rfl rfl (ah ?_) rfl rfl rfl;rw [hend 4 2 (by decide) hloc];exact aF _ _
      ·have he:(o8 i.op (bZ x i.b) (bZ x i.c)).2≠20:=by simpa using h15
       rw [if_neg he]at hloc;refine sk (sq (sq (rg [] rfl ?_)));refine cd rfl (fun h17=>?_) (fun h17=>?_)
       ·have he2:(o8 i.op (bZ x i.b) (bZ x i.c)).2=21:=by simpa using h17
        rw [if_pos he2]at hloc;refine sq (rgs [CG.pure (bP (ou x 4 3))] rfl ?_ ?_)
        ·have hq:=vX x 4 3;exact au
        refine WP.ret ?_;change Fin ..;refine aO hT rfl rfl rfl rfl rfl (ah ?_) rfl rfl rfl;rw [hend 4 3 (by decide) hloc];exact aF _ _
       ·have he2:(o8 i.op (bZ x i.b) (bZ x i.c)).2≠21:=by simpa using h17
        rw [if_neg he2]at hloc;refine sk (rgs [] rfl ?_ ?_)
        ·exact au
        refine rg [] rfl ?_;refine ⟨⟨j,yI { x with pc:=x.pc+1} i.a (o8 i.op (bZ x i.b) (bZ x i.c)).1⟩,?_,?_,?_⟩
        ·exact hnx _ hloc hx1
        ·refine em [] trivial ⟨⟨rfl,_,rfl,ah (by rw [bC (by omega) (by omega)];simp)⟩,cq,cq,cq,tt⟩ ⟨obs rfl (hg:=q0 (ah ((congrArg (fun z=>AV.put z [2] (.int (IntKind.i64.wrap (x.pc+1)))) (jc (g:=x) (k:=i.a.toNat) (o8 i.op (bZ x i.b) (bZ x i.c)).1 (by omega))).trans (Aw (g:={ x with regs:=x.regs.set i.a.toNat (o8 i.op (bZ x i.b) (bZ x i.c)).1}) hpx)))),obs rfl,tt⟩
        ·(try simp only []);first | omega | grind
     ·have hop2:¬ i.op≤36:=by simpa using h13
      refine sg rfl ?_;refine cd rfl (fun h20=>?_) (fun h20=>?_)
      ·have e:i.op=40:=by simpa using h20
       have:=hcn (.inl e);have hloc:oP x i=yI { x with pc:=x.pc+1} i.a i.n:=by rw [oP,if_pos e]
       refine rgs [] rfl ?_ ?_
       ·exact au
       refine rg [] rfl ?_;refine ⟨⟨j,yI { x with pc:=x.pc+1} i.a i.n⟩,?_,?_,?_⟩
       ·exact hnx _ hloc hx1
       ·refine em [] trivial ⟨⟨rfl,_,rfl,ah (by rw [bC (by omega) (by omega)];simp)⟩,cq,cq,cq,tt⟩ ⟨obs rfl (hg:=q0 (ah ((congrArg (fun z=>AV.put z [2] (.int (IntKind.i64.wrap (x.pc+1)))) (jc (g:=x) (k:=i.a.toNat) i.n (by omega))).trans (Aw (g:={ x with regs:=x.regs.set i.a.toNat i.n}) hpx)))),obs rfl,tt⟩
       ·(try simp only []);first | omega | grind
      ·have e0:i.op≠40:=by simpa using h20
       refine sg rfl ?_;refine cd rfl (fun h22=>?_) (fun h22=>?_)
       ·have e:i.op=41:=by simpa using h22
        have:=hmv e;have hloc:oP x i=yI { x with pc:=x.pc+1} i.a (bZ x i.b):=by rw [oP,if_neg e0,if_pos e]
        refine drs [] rfl ?_ ?_
        ·exact au
        refine rg [] rfl ?_;refine ⟨⟨j,yI { x with pc:=x.pc+1} i.a (bZ x i.b)⟩,?_,?_,?_⟩
        ·exact hnx _ hloc hx1
        ·refine em [] trivial ⟨⟨rfl,_,rfl,ah (by rw [bC (by omega) (by omega)];simp)⟩,cq,cq,cq,tt⟩ ⟨obs rfl (hg:=q0 (ah ((congrArg (fun z=>AV.put z [2] (.int (IntKind.i64.wrap (x.pc+1)))) (jc (g:=x) (k:=i.a.toNat) (bZ x i.b) (by omega))).trans (Aw (g:={ x with regs:=x.regs.set i.a.toNat (bZ x i.b) }) hpx)))),obs rfl,tt⟩
        ·(try simp only []);first | omega | grind
       ·have e1:i.op≠41:=by simpa using h22
        refine sg rfl ?_;refine cd rfl (fun h24=>?_) (fun h24=>?_)
        ·have e:i.op=42:=by simpa using h24
         have hloc:oP x i={ x with pc:=i.a}:=by rw [oP,if_neg e0,if_neg e1,if_pos e]
         refine sg rfl ?_;refine xt ?_;refine ⟨⟨j,{ x with pc:=i.a}⟩,?_,?_,?_⟩
         ·exact hnx _ hloc hx1
         ·refine em [] trivial ⟨⟨rfl,_,rfl,ah (by rw [bC (by omega) (by omega)];simp)⟩,cq,cq,cq,tt⟩ ⟨obs rfl (hg:=q0 (ah (ng x i.a))),obs rfl,tt⟩
         ·(try simp only []);first | omega | grind
        ·have e2:i.op≠42:=by simpa using h24
         refine sg rfl ?_;refine cd rfl (fun h26=>?_) (fun h26=>?_)
         ·have e:i.op=43:=by simpa using h26
          have:=hcn (.inr (.inr (.inr (.inr e))));have hloc:oP x i=(if bZ x i.a≠0 then { x with pc:=i.b}else { x with pc:=x.pc+1}):=by rw [oP,if_neg e0,if_neg e1,if_neg e2,if_pos e]
          refine sq (rgs [] rfl ?_ ?_)
          ·exact au
          refine cd rfl (fun h27=>?_) (fun h27=>?_)
          ·have hz:bZ x i.a≠0:=by simp [-List.getD_eq_getElem?_getD]at h27;exact h27
           rw [if_pos hz]at hloc;refine sg rfl ?_;refine xt ?_;refine ⟨⟨j,{ x with pc:=i.b}⟩,?_,?_,?_⟩
           ·exact hnx _ hloc hx1
           ·refine em [] trivial ⟨⟨rfl,_,rfl,ah (by rw [bC (by omega) (by omega)];simp)⟩,cq,cq,cq,tt⟩ ⟨obs rfl (hg:=q0 (ah (ng x i.b))),obs rfl,tt⟩
           ·(try simp only []);first | omega | grind
          ·have hz:¬ bZ x i.a≠0:=by simp [-List.getD_eq_getElem?_getD]at h27;simpa using h27
           rw [if_neg hz]at hloc;refine sk (rg [] rfl ?_);refine ⟨⟨j,{ x with pc:=x.pc+1}⟩,?_,?_,?_⟩
           ·exact hnx _ hloc hx1
           ·refine em [] trivial ⟨⟨rfl,_,rfl,ah (by rw [bC (by omega) (by omega)];simp)⟩,cq,cq,cq,tt⟩ ⟨obs rfl (hg:=q0 (ah (Aw hpx))),obs rfl,tt⟩
           ·(try simp only []);first | omega | grind
         ·have e3:i.op≠43:=by simpa using h26
          refine sg rfl ?_;refine cd rfl (fun h29=>?_) (fun h29=>?_)
          ·have e:i.op=44:=by simpa using h29
           have:=hcn (.inr (.inl e));have hloc:oP x i=(if bZ x i.a=0 then ou x 4 1 else { x with pc:=x.pc+1}):=by rw [oP,if_neg e0,if_neg e1,if_neg e2,if_neg e3,if_pos e]
           refine sq (rgs [] rfl ?_ ?_)
           ·exact au
           refine cd rfl (fun h30=>?_) (fun h30=>?_)
           ·have hz:bZ x i.a=0:=by simp [-List.getD_eq_getElem?_getD]at h30;exact h30
            rw [if_pos hz]at hloc;refine sq (rgs [CG.pure (bP (ou x 4 1))] rfl ?_ ?_)
            ·have hq:=vX x 4 1;exact au
            refine WP.ret ?_;change Fin ..;refine aO hT rfl rfl rfl rfl rfl (ah ?_) rfl rfl rfl;rw [hend 4 1 (by decide) hloc];exact aF _ _
           ·have hz:¬ bZ x i.a=0:=by simp [-List.getD_eq_getElem?_getD]at h30;exact h30
            rw [if_neg hz]at hloc;refine sk (rg [] rfl ?_);refine ⟨⟨j,{ x with pc:=x.pc+1}⟩,?_,?_,?_⟩
            ·exact hnx _ hloc hx1
            ·refine em [] trivial ⟨⟨rfl,_,rfl,ah (by rw [bC (by omega) (by omega)];simp)⟩,cq,cq,cq,tt⟩ ⟨obs rfl (hg:=q0 (ah (Aw hpx))),obs rfl,tt⟩
            ·(try simp only []);first | omega | grind
          ·have e4:i.op≠44:=by simpa using h29
           have e:i.op=45:=by omega
           have hloc:oP x i=ou x 3 0:=by rw [oP,if_neg e0,if_neg e1,if_neg e2,if_neg e3,if_neg e4,if_pos e]
           refine sq (rgs [CG.pure (bP (ou x 3 0))] rfl ?_ ?_)
           ·have hq:=vX x 3 0;exact au
           refine WP.ret ?_;change Fin ..;refine aO hT rfl rfl rfl rfl rfl (ah ?_) rfl rfl rfl;rw [hend 3 0 (by decide) hloc];exact aF _ _
instance (b:iq):Decidable (xQ b):=by unfold xQ;infer_instance
theorem Np (b:iq):AC Tryz.prog T bn 25 [dD b] [] (.bool (decide (xQ b))) []:=by
 refine aA hT Tryz.func25 rfl rfl (Nat.le_of_ble_eq_true rfl) ?_;refine sg rfl ?_;refine sg rfl ?_;refine WP.ret ?_;change Fin ..;refine fin1 hT (by rfl) ?_;simp only [band];rw [Bool.eq_iff_iff];simp [xQ,and_assoc]
def FT (p:ay):Prop:=(∀ v∈p.vars,inW v.init) ∧ ∀ f∈p.funcs,YJ f
theorem FT.fn {p:ay} (h:FT p) (g:PGo):YJ (dN p g):=by
 unfold dN;rw [List.getD_eq_getElem?_getD];rcases Nat.lt_or_ge g.func.toNat p.funcs.length with h1 | h1
 ·rw [List.getElem?_eq_getElem h1];exact h.2 _ (List.getElem_mem _)
 ·rw [List.getElem?_eq_none h1];intro x hx;cases hx
structure WS (s:PSt):Prop where
 vars:∀ v∈s.vars,inW v
 ch:∀ c∈s.chans,(∀ v∈c.buf,inW v)∧inW c.val
 go:∀ g∈s.gos,okW g
theorem Qr:okW go0:=fun x hx=>by
 have:x=0:=by simpa [go0]using hx
 subst this;exact pU (by decide) (by decide)
theorem WS.at {s:PSt} (h:WS s) (g:Int):okW (goI s g):=by
 unfold goI;rw [List.getD_eq_getElem?_getD];rcases Nat.lt_or_ge g.toNat s.gos.length with h1 | h1
 ·rw [List.getElem?_eq_getElem h1];exact h.go _ (List.getElem_mem _)
 ·rw [List.getElem?_eq_none h1];exact Qr
theorem O0 (p:ay) (n:Int) (hw:FT p):AC Tryz.prog T bn 56 [aj p,.int n] [] (.tup [encS (bV p n).1,.int (bV p n).2]) []:=by
 refine aA hT Tryz.func56 rfl rfl (Nat.le_of_ble_eq_true rfl) ?_;refine sg rfl ?_;refine sq (sq (rgs [CG.pure (.bool (dQ p))] rfl ?_ ?_))
 ·have hq:=yT p;exact au
 refine cd rfl (fun h1=>?_) (fun h1=>?_)
 ·have hr:dQ p=false:=by simpa using h1
  refine sg rfl ?_;refine WP.ret ?_;change Fin ..;exact oU hT rfl rfl rfl (ah ((aF _ _).trans (by rw [bV,if_pos hr];exact zeroS))) (by rw [bV,if_pos hr])
 ·have hr:dQ p=true:=by simpa using h1
  have hp:=jg hr;refine sk (sq (sq (rg [] rfl ?_)));refine cd rfl (fun h3=>?_) (fun h3=>?_)
  ·have hf:¬ (0≤n∧n≤4096):=by simp only [bor]at h3;simp at h3;omega
   refine sg rfl ?_;refine WP.ret ?_;change Fin ..;exact oU hT rfl rfl rfl (ah ((aF _ _).trans (by rw [bV,if_neg (by simp [hr]),if_pos hf];exact zeroS))) (by rw [bV,if_neg (by simp [hr]),if_pos hf])
  ·have hf:0≤n∧n≤4096:=by simp only [bor]at h3;simp at h3;omega
   obtain ⟨k,rfl⟩:=Int.eq_ofNat_of_zero_le hf.1;have hvl:=hp.vars
   have e1:(T 62).zero.put [4] (.int 1)=encS { st0 with count:=1,vars:=kP p 0}:=by rw [zeroS,tH];rfl
   refine sk (sq (rg [] rfl ?_));refine sq (sq (rg [] rfl ?_));refine bk ?_;refine WP.loop (α:=Nat) (fun i=>aK [(1,.int k),(2,.rp 26 (aj p)),(4,.ptr (.s 4 0) 1 0 []),(6,.ptr (.s 6 0) 1 0 []),(22,rowP 116 Dq RH p.vars),(23,.int p.vars.length),(24,.int i)] [(.s 4 0,.cells ⟨62,1,fun _=>(T 62).zero,0⟩),(.s 6 0,.cells ⟨62,1,fun _=>encS { st0 with count:=1,vars:=kP p i},0⟩)]) (fun i=>i≤p.vars.length) (fun i=>p.vars.length - i) ?_ ?_
   ·refine ⟨0,?_,?_⟩
    ·exact Nat.zero_le _
    ·refine em [(.s 2 0,1)] ⟨sF,tt⟩ ⟨cq,rq,cq,cq,cq,cq,cq,tt⟩ ⟨obs rfl,obs rfl (hg:=q0 (ah ((aF _ _).trans e1))),tt⟩
   ·rintro i hi;refine sg rfl ?_;refine sq ?_;refine cd rfl (fun h7=>?_) (fun h7=>?_)
    ·have hil:i<p.vars.length:=by simp [-List.getD_eq_getElem?_getD]at h7;omega
     refine sk (sq (bk (sq (rgs [] rfl ?_ ?_))))
     ·simp [-List.getD_eq_getElem?_getD,ak,under];omega
     refine rgs [] rfl ?_ ?_
     ·simp [-List.getD_eq_getElem?_getD,ak,under];omega
     refine rg [] rfl ?_;refine ⟨i+1,?_,?_,?_⟩
     ·exact hil
     ·refine em [] trivial ⟨cq,cq,cq,cq,cq,cq,cq,tt⟩ ⟨obs rfl,obs rfl (hg:=q0 (ah ((tC _ (by show _<(kP p i).length;rw [xG];omega)).trans (by simp only [Int.toNat_natCast];rw [Df (by omega)])))),tt⟩
     ·(try simp only []);first | omega | grind
    ·have hil:i=p.vars.length:=by simp [-List.getD_eq_getElem?_getD]at h7;omega
     subst hil;refine xt (sq (rgs [CG.pure (bP (qg (aY p 0) k live0))] rfl ?_ ?_))
     ·have hq:=zL p go0 k hp ⟨by decide,by have:=hp.funcs;show (0:Int)<_;omega⟩ (XP hp) Qr (hw.fn go0) (by omega);rw [← E5]at hq;exact au
     refine sg rfl ?_;refine WP.ret ?_;change Fin ..;refine oU hT rfl rfl rfl (ah ((aF _ _).trans ?_)) (by rw [bV,if_neg (by simp [hr]),if_neg (by simp;omega)]);rw [bV,if_neg (by simp [hr]),if_neg (by simp;omega)];exact lu (by show 0<6;omega) (aF _ _)
theorem Ci (p:ay) (s:PSt) (g n:Int) (hs:OkS s) (hw:FT p) (hws:WS s):AC Tryz.prog T bn 211 [aj p,encS s,.int g,.int n] [] (.tup [encS (bD p s g n).1,.int (bD p s g n).2]) []:=by
 refine aA hT Tryz.func211 rfl rfl (Nat.le_of_ble_eq_true rfl) ?_;refine sg rfl ?_;refine sq (sq ?_);refine WP.ent (st':=aK [(4,.rp 26 (aj p)),(2,.int g),(3,.int n),(5,.ptr (.s 5 0) 1 0 []),(8,.ptr (.s 8 0) 1 0 [])] [(.s 5 0,.cells ⟨62,1,fun _=>encS s,0⟩),(.s 8 0,.cells ⟨62,1,fun _=>(T 62).zero,0⟩)]) (em [(.s 4 0,1)] ⟨sF,tt⟩ ⟨rq,cq,cq,cq,cq,tt⟩ ⟨obs rfl,obs rfl,tt⟩) ?_;refine rgs [CG.pure (.bool (dQ p))] rfl ?_ ?_
 ·have hq:=yT p;exact au
 refine cd rfl (fun h1=>?_) (fun h1=>?_)
 ·have hr:dQ p=false:=by simpa using h1
  refine sg rfl ?_;refine WP.ret ?_;change Fin ..;exact oU hT rfl rfl rfl (ah ((aF _ _).trans (by rw [bD,if_pos hr];exact zeroS))) (by rw [bD,if_pos hr])
 ·have hr:dQ p=true:=by simpa using h1
  have hp:=jg hr;have hr0:¬ dQ p=false:=by simp [hr]
  refine sk (sq (sq (rgs [CG.pure (.bool (decide (dw p s)))] rfl ?_ ?_)))
  ·have hq:=OU p s hs;exact au
  refine cd rfl (fun h3=>?_) (fun h3=>?_)
  ·have hv:¬ dw p s:=by simpa using h3
   refine sg rfl ?_;refine WP.ret ?_;change Fin ..;exact oU hT rfl rfl rfl (ah ((aF _ _).trans (by rw [bD,if_neg hr0,if_pos hv];exact zeroS))) (by rw [bD,if_neg hr0,if_pos hv])
  ·have hv:dw p s:=by simpa using h3
   have hv0:¬ ¬ dw p s:=fun h=>h hv;refine sk (sq (sq (rg [] rfl ?_)));refine cd rfl (fun h5=>?_) (fun h5=>?_)
   ·have ha:¬ ((0≤g∧g<6)∧(0≤n∧n≤4096)):=by simp only [bor]at h5;simp at h5;omega
    refine sg rfl ?_;refine WP.ret ?_;change Fin ..;exact oU hT rfl rfl rfl (ah ((aF _ _).trans (by rw [bD,if_neg hr0,if_neg hv0,if_pos ha];exact zeroS))) (by rw [bD,if_neg hr0,if_neg hv0,if_pos ha])
   ·have ha:(0≤g∧g<6)∧(0≤n∧n≤4096):=by simp only [bor]at h5;simp at h5;omega
    have ha0:¬ ¬ ((0≤g∧g<6)∧(0≤n∧n≤4096)):=fun h=>h ha;refine sk (sq (sq (rg [] rfl ?_)));refine cd rfl (fun h7=>?_) (fun h7=>?_)
    ·have hc:s.count≤g:=by simpa using h7
     refine sg rfl ?_;refine WP.ret ?_;change Fin ..;exact oU hT rfl rfl rfl (ah ((aF _ _).trans (by rw [bD,if_neg hr0,if_neg hv0,if_neg ha0,if_pos hc];exact zeroS))) (by rw [bD,if_neg hr0,if_neg hv0,if_neg ha0,if_pos hc])
    ·have hc:¬ s.count≤g:=by simpa using h7
     have hgl:=hs.gos;refine sk (sq (sq (rgs [] rfl ?_ ?_)))
     ·exact au
     refine cd rfl (fun h9=>?_) (fun h9=>?_)
     ·have hst:(goI s g).status=1∨(goI s g).status=5:=by simp only [bor]at h9;simp [-List.getD_eq_getElem?_getD]at h9;exact h9
      have hfit:=(hv.2.2.2.2.1 g.toNat (by omega)).1 (by omega);obtain ⟨k,rfl⟩:=Int.eq_ofNat_of_zero_le ha.2.1;refine drs [CG.pure (bP (qg (dN p (goI s g)) k { goI s g with status:=1}))] rfl ?_ ?_
      ·have hq:=zL p (goI s g) k hp hfit.2.1 ⟨fJ hs _,hfit.2.2.1⟩ (hws.at g) (hw.fn _) (by omega);exact au
      refine sg rfl ?_;refine WP.ret ?_;change Fin ..;refine oU hT rfl rfl rfl (ah ((aF _ _).trans ?_)) (by rw [bD,if_neg hr0,if_neg hv0,if_neg ha0,if_neg hc,if_pos hst]);rw [bD,if_neg hr0,if_neg hv0,if_neg ha0,if_neg hc,if_pos hst];exact lu (by omega) (TP _ _)
     ·have hst:¬ ((goI s g).status=1∨(goI s g).status=5):=by simp only [bor]at h9;simp [-List.getD_eq_getElem?_getD]at h9;exact fun h=>h.elim h9.1 h9.2
      refine sk (sq (rg [] rfl ?_));refine WP.ret ?_;change Fin ..;refine oU hT rfl rfl rfl (ah ((aF _ _).trans ?_)) (by rw [bD,if_neg hr0,if_neg hv0,if_neg ha0,if_neg hc,if_neg hst]);rw [bD,if_neg hr0,if_neg hv0,if_neg ha0,if_neg hc,if_neg hst];rfl
theorem Pv (p:ay) (n:Int) (b:iq):AC Tryz.prog T bn 54 [aj p,.int n,dD b] [] (.int (gZ p n b)) []:=by
 refine aA hT Tryz.func54 rfl rfl (Nat.le_of_ble_eq_true rfl) ?_;refine sg rfl ?_;refine sq (sq (rgs [CG.pure (.bool (dQ p))] rfl ?_ ?_))
 ·have hq:=yT p;exact au
 refine cd rfl (fun h1=>?_) (fun h1=>?_)
 ·refine sg rfl ?_;refine WP.ret ?_;change Fin ..;refine cZ hT (by rfl) ?_;unfold gZ;cases hr:dQ p <;> by_cases h256:256<n <;> by_cases hb:xQ b <;> simp_all <;> omega
 ·refine sk (sq (sq (rg [] rfl ?_)));refine cd rfl (fun h3=>?_) (fun h3=>?_)
  ·refine sg rfl ?_;refine WP.ret ?_;change Fin ..;refine cZ hT (by rfl) ?_;unfold gZ;cases hr:dQ p <;> by_cases h256:256<n <;> by_cases hb:xQ b <;> simp_all <;> omega
  ·refine sk (sq (sq (rgs [CG.pure (.bool (decide (xQ b)))] rfl ?_ ?_)))
   ·have hq:=Np b;exact au
   refine cd rfl (fun h5=>?_) (fun h5=>?_)
   ·refine sg rfl ?_;refine WP.ret ?_;change Fin ..;refine cZ hT (by rfl) ?_;unfold gZ;cases hr:dQ p <;> by_cases h256:256<n <;> by_cases hb:xQ b <;> simp_all <;> omega
   ·refine sk (sq (rg [] rfl ?_));refine WP.ret ?_;change Fin ..;refine cZ hT (by rfl) ?_;unfold gZ;cases hr:dQ p <;> by_cases h256:256<n <;> by_cases hb:xQ b <;> simp_all <;> omega
theorem tu (p:ay) (s:PSt) (g:Int) (h:dR p s g):AC Tryz.prog T bn 170 [aj p,encS s,.int g] [] (aP (insOf p (goI s g))) []:=by
 refine aA hT Tryz.func170 rfl rfl (Nat.le_of_ble_eq_true rfl) ?_;refine sg rfl ?_;refine sq ?_;refine WP.ent (st':=aK [(3,.rp 26 (aj p)),(4,.rp 62 (encS s)),(2,.int g),(6,.ptr (.s 6 0) 1 0 [])] [(.s 6 0,.cells ⟨120,1,fun _=>(T 120).zero,0⟩)]) (em [(.s 3 0,1),(.s 4 0,1)] ⟨sF,sF,tt⟩ ⟨rq,rq,cq,cq,tt⟩ ⟨obs rfl,tt⟩) ?_;refine drs [] rfl ?_ ?_
 ·have h1:=h.pos;have h2:=h.fit.2.1;have h3:=h.fit.2.2.1
  simp only [bQ,dN,goI]at h2 h3;simp [-List.getD_eq_getElem?_getD,ak,under];omega
 exact WP.ret (aO hT rfl rfl rfl rfl rfl (ah (aF _ _)) rfl rfl rfl)
def xE (s:PSt) (g:Int):Bool:=decide (0≤g)&&(decide (g<s.count)&&uy (goI s g))
theorem KD (s:PSt) (g:Int) (hc:s.count≤6):AC Tryz.prog T bn 92 [encS s,.int g] [] (.bool (xE s g)) []:=by
 refine aA hT Tryz.func92 rfl rfl (Nat.le_of_ble_eq_true rfl) ?_;refine sg rfl ?_;refine sq ?_;refine WP.ent (st':=aK [(2,.rp 62 (encS s)),(1,.int g)] []) (em [(.s 2 0,1)] ⟨sF,tt⟩ ⟨rq,cq,tt⟩ trivial) ?_;refine rgs [] rfl ?_ ?_
 ·simp only [ak,under,CG.pure,band,Bool.and_eq_true,decide_eq_true_eq]
  repeat' with_reducible refine And.intro ?_ ?_
  all_goals (try with_reducible intros)
  all_goals (first | exact trivial | assumption | omega | (simp_all;done) | (simp_all;omega))
 refine WP.ret ?_;change Fin ..;refine fin1 hT (by rfl) ?_;simp only [band,bor];rw [xE,uy];cases decide (0≤g) <;> cases decide (g<s.count) <;> simp
theorem CB (p:ay) (s:PSt) (g:Int) (h:dR p s g):AC Tryz.prog T bn 168 [aj p,encS s,.int g] [] (.int (atI p s g).op) []:=by
 refine aA hT Tryz.func168 rfl rfl (Nat.le_of_ble_eq_true rfl) ?_;refine sg rfl ?_;refine sq (sq ?_);refine WP.ent (st':=aK [(3,.rp 26 (aj p)),(4,.rp 62 (encS s)),(2,.int g)] []) (em [(.s 3 0,1),(.s 4 0,1)] ⟨sF,sF,tt⟩ ⟨rq,rq,cq,tt⟩ trivial) ?_;refine rgs [] rfl ?_ ?_
 ·have h1:=h.pos;exact au
 refine cd rfl (fun h1=>?_) (fun h1=>?_)
 ·have hw:(goI s g).status=2:=by simp [-List.getD_eq_getElem?_getD]at h1;exact h1
  refine sg rfl ?_;exact WP.ret (cZ hT (by rfl) (by rw [atI,if_pos hw]))
 ·have hw:¬ (goI s g).status=2:=by simp [-List.getD_eq_getElem?_getD]at h1;exact h1
  refine sk (sq (rgs [CG.pure (aP (insOf p (goI s g)))] rfl ?_ ?_))
  ·have hq:=tu p s g h;exact au
  exact WP.ret (cZ hT (by rfl) (by rw [atI,if_neg hw]))
theorem FP (p:ay) (s:PSt) (c:Int) (hc:bQ c p.chans.length) (h4:p.chans.length≤4) (hn:0≤p.chans.getD c.toNat 0):AC Tryz.prog T bn 171 [aj p,encS s,.int c] [] (.bool (jl p s c)) []:=by
 refine aA hT Tryz.func171 rfl rfl (Nat.le_of_ble_eq_true rfl) ?_;unfold bQ at hc;refine sg rfl ?_;refine sq ?_;refine WP.ent (st':=aK [(3,.rp 26 (aj p)),(4,.rp 62 (encS s)),(2,.int c)] []) (em [(.s 3 0,1),(.s 4 0,1)] ⟨sF,sF,tt⟩ ⟨rq,rq,cq,tt⟩ trivial) ?_;refine rgs [] rfl ?_ ?_
 ·exact au
 refine sq (sq ?_);refine WP.ent (st':=aK [(7,.rp 56 (dW (chI s c))),(2,.int c),(3,.rp 26 (aj p)),(4,.rp 62 (encS s))] []) (em [(.s 7 0,1)] ⟨sF,tt⟩ ⟨rq,cq,cq,cq,tt⟩ trivial) ?_;refine rg [] rfl ?_;refine cd rfl (fun h2=>?_) (fun h2=>?_)
 ·have hcl:(chI s c).closed=true:=h2;refine sg rfl ?_;refine WP.ret ?_;change Fin ..;exact fin1 hT (by rfl) (by rw [jl,hcl];rfl)
 ·have hcl:(chI s c).closed=false:=h2;refine sk (sq (sq (rgs [] rfl ?_ ?_)))
  ·exact au
  refine cd rfl (fun h4=>?_) (fun h4=>?_)
  ·have h0:p.chans.getD c.toNat 0>0:=by simp [-List.getD_eq_getElem?_getD]at h4;exact h4
   refine sq (drs [] rfl ?_ ?_)
   ·exact au
   refine WP.ret ?_;change Fin ..;refine fin1 hT (by rfl) ?_;rw [jl,hcl,decide_eq_true h0,show (p.chans.getD c.toNat 0==0)=false by simp [-List.getD_eq_getElem?_getD];omega];simp
  ·have h0:¬ p.chans.getD c.toNat 0>0:=by simp [-List.getD_eq_getElem?_getD]at h4 ⊢;omega
   refine sk (sq (rg [] rfl ?_));refine WP.ret ?_;change Fin ..;refine fin1 hT (by rfl) ?_;rw [jl,hcl,decide_eq_false h0,show (p.chans.getD c.toNat 0==0)=true by simp [-List.getD_eq_getElem?_getD];omega];simp
theorem xZ (s:PSt) (c:Int) (hc:0≤c∧c<4):AC Tryz.prog T bn 172 [encS s,.int c] [] (.bool (D6 s c)) []:=by
 refine aA hT Tryz.func172 rfl rfl (Nat.le_of_ble_eq_true rfl) ?_;refine sg rfl ?_;refine sq ?_;refine WP.ent (st':=aK [(2,.rp 62 (encS s)),(1,.int c)] []) (em [(.s 2 0,1)] ⟨sF,tt⟩ ⟨rq,cq,tt⟩ trivial) ?_;refine rgs [] rfl ?_ ?_
 ·exact au
 refine sq ?_;refine WP.ent (st':=aK [(5,.rp 56 (dW (chI s c)))] []) (em [(.s 5 0,1)] ⟨sF,tt⟩ ⟨rq,tt⟩ trivial) ?_;refine rg [] rfl ?_;refine WP.ret ?_;change Fin ..;exact fin1 hT (by rfl) (by simp only [bor,band];rfl)
theorem Ri {p:ay} (hp:qV p) {c:Int} (hc:bQ c p.chans.length):0≤p.chans.getD c.toNat 0:=by
 unfold bQ at hc;rw [List.getD_eq_getElem?_getD,List.getElem?_eq_getElem (show c.toNat<p.chans.length by omega)];exact (hp.caps _ (List.getElem_mem _)).1
theorem O4 (p:ay) (s:PSt) (g:Int) (h:dR p s g) (h61:(atI p s g).op≠61):AC Tryz.prog T bn 169 [aj p,encS s,.int g] [] (.bool (gY p s g)) []:=by
 refine aA hT Tryz.func169 rfl rfl (Nat.le_of_ble_eq_true rfl) ?_;have ha:=h.at
 have h6:=h.pos;have h4:=h.prog.chans
 have hc6:=h.valid.2.1.2;refine sg rfl ?_;refine sq ?_;refine WP.ent (st':=aK [(3,.rp 26 (aj p)),(4,.rp 62 (encS s)),(2,.int g)] []) (em [(.s 3 0,1),(.s 4 0,1)] ⟨sF,sF,tt⟩ ⟨rq,rq,cq,tt⟩ trivial) ?_;refine rgs [CG.pure (aP (insOf p (goI s g)))] rfl ?_ ?_
 ·have hq:=tu p s g h;exact au
 refine sq ?_;have hab:(insOf p (goI s g)).a=(atI p s g).a∧(insOf p (goI s g)).b=(atI p s g).b:=by unfold atI;split <;> exact ⟨rfl,rfl⟩
 refine WP.ent (st':=aK [(7,.rp 120 (aP (insOf p (goI s g)))),(2,.int g),(3,.rp 26 (aj p)),(4,.rp 62 (encS s))] []) (em [(.s 7 0,1)] ⟨sF,tt⟩ ⟨rq,cq,cq,cq,tt⟩ trivial) ?_;refine rgs [] rfl ?_ ?_
 ·exact au
 refine sq (sq ?_);refine WP.ent (st':=aK [(8,.rp 52 (o7 52 8 .i64 (goI s g).regs)),(2,.int g),(3,.rp 26 (aj p)),(4,.rp 62 (encS s)),(7,.rp 120 (aP (insOf p (goI s g))))] []) (em [(.s 8 0,1)] ⟨sF,tt⟩ ⟨rq,cq,cq,cq,cq,tt⟩ trivial) ?_;refine rgs [CG.pure (.int (atI p s g).op)] rfl ?_ ?_
 ·have hq:=CB p s g h;exact au
 refine bk (sq (rg [] rfl ?_));refine cd rfl (fun h4=>?_) (fun h4=>?_)
 ·have e4:(atI p s g).op=54:=by simpa using h4
  have:=ha.await e4;rw [← hab.1,← hab.2]at this;refine sq (drs [] rfl ?_ ?_)
  ·exact au
  exact WP.ret (fin1 hT (by rfl) (by rw [gY,if_pos e4,← hab.1,← hab.2]))
 ·have e4:(atI p s g).op≠54:=by simpa using h4
  refine sg rfl ?_;refine cd rfl (fun h6=>?_) (fun h6=>?_)
  ·have e6:(atI p s g).op=55:=by simpa using h6
   have:=ha.lock (.inl e6);rw [← hab.1]at this;refine sq (rgs [] rfl ?_ ?_)
   ·exact au
   exact WP.ret (fin1 hT (by rfl) (by rw [gY,if_neg e4,if_pos e6,← hab.1]))
  ·have e6:(atI p s g).op≠55:=by simpa using h6
   refine sg rfl ?_;refine cd rfl (fun h8=>?_) (fun h8=>?_)
   ·have e8:(atI p s g).op=58:=by simpa using h8
    have hsd:=ha.send (.inl e8);rw [← hab.1]at hsd;refine sq (rgs [CG.pure (.bool (jl p s (insOf p (goI s g)).a))] rfl ?_ ?_)
    ·have hq:=FP p s (insOf p (goI s g)).a hsd h.prog.chans (Ri h.prog hsd);exact au
    exact WP.ret (fin1 hT (by rfl) (by rw [gY,if_neg e4,if_neg e6,if_pos e8,← hab.1]))
   ·have e8:(atI p s g).op≠58:=by simpa using h8
    refine sg rfl ?_;refine cd rfl (fun h10=>?_) (fun h10=>?_)
    ·have e10:(atI p s g).op=59:=by simpa using h10
     have hb:=ha.recv e10;rw [← hab.2]at hb;unfold bQ at hb;refine sq (rgs [CG.pure (.bool (D6 s (insOf p (goI s g)).b))] rfl ?_ ?_)
     ·have hq:=xZ s (insOf p (goI s g)).b (by have:=h.prog.chans;omega);exact au
     exact WP.ret (fin1 hT (by rfl) (by rw [gY,if_neg e4,if_neg e6,if_neg e8,if_pos e10,← hab.2]))
    ·have e10:(atI p s g).op≠59:=by simpa using h10
     refine sg rfl ?_;refine cd rfl (fun h12=>?_) (fun h12=>?_)
     ·have e12:(atI p s g).op=66:=by simpa using h12
      have hst:(goI s g).status=2:=by
       by_cases hs:(goI s g).status=2
       ·exact hs
       ·have h1:=h.ins.op;rw [show insOf p (goI s g)=atI p s g by rw [atI,if_neg hs],e12]at h1;exact absurd h1 (by decide)
      obtain ⟨_,k,hk1,hk2,hk3,_⟩:=h.wait hst;have hof:=((h.valid.2.2.2.2.2.1 k (by omega)).1 hk1).1.2.1
      have hak:(insOf p (goI s g)).a=k:=hk2;refine sq (rgs [] rfl ?_ ?_)
      ·exact au
      refine sg rfl ?_;refine WP.ret ?_;change Fin ..;refine fin1 hT (by rfl) ?_;rw [gY,if_neg e4,if_neg e6,if_neg e8,if_neg e10,if_pos e12,← hab.1,hak];simp only [bor];have e:chI s (k:Int)=dB s k:=rfl
      rw [e];show ((dB s k).offer==2||(dB s k).offer==3)=((dB s k).offer != 1)
      obtain ⟨f,hf⟩:∃ f,(dB s k).offer=f:=⟨_,rfl⟩;rw [hf]at hof hk3 ⊢;rw [Bool.eq_iff_iff];simp;omega
     ·have e12:(atI p s g).op≠66:=by simpa using h12
      refine sg rfl ?_;refine cd rfl (fun h15=>?_) (fun h15=>?_)
      ·have e14:(atI p s g).op=63:=by simpa using h15
       have hb:=ha.join (.inl e14);rw [← hab.1]at hb;refine sq (rgs [] rfl ?_ ?_)
       ·exact au
       refine sq (rgs [CG.pure (.bool (xE s (bZ (goI s g) (insOf p (goI s g)).a)))] rfl ?_ ?_)
       ·have hq:=KD s (bZ (goI s g) (insOf p (goI s g)).a) hc6;exact au
       refine WP.ret ?_;change Fin ..;refine fin1 hT (by rfl) ?_;rw [gY,if_neg e4,if_neg e6,if_neg e8,if_neg e10,if_neg e12,if_pos e14,← hab.1];simp only [bor];rw [Bool.eq_iff_iff,iV,xE];obtain ⟨k,hk⟩:∃ k,bZ (goI s g) (insOf p (goI s g)).a=k:=⟨_,rfl⟩;unfold bZ at hk ⊢;rw [hk];cases uy (goI s k) <;> simp <;> omega
      ·have e14:(atI p s g).op≠63:=by simpa using h15
       refine sk (sq (rgs [CG.pure (.int (atI p s g).op)] rfl ?_ ?_))
       ·have hq:=CB p s g h;exact au
       refine WP.ret ?_;change Fin ..;refine fin1 hT (by rfl) ?_;rw [gY,if_neg e4,if_neg e6,if_neg e8,if_neg e10,if_neg e12,if_neg e14];have h1:=h.ins.op
       rw [← ha.ins e12]at h1;unfold su at h1;unfold EX at h1 ⊢;rw [Bool.eq_iff_iff];simp at h1 ⊢;omega
def qc (p:ay) (s:PSt) (g:Int):List Int:=if xE s g=true then kU p s g else []
theorem DK {p:ay} {s:PSt} {g:Int} (ho:OkS s) (hv:dw p s) (h:xE s g=true):dR p s g:=by
 have hc:=hv.2.1;simp only [xE,Bool.and_eq_true,decide_eq_true_eq]at h;exact ⟨ho,hv,h.2.2,by omega⟩
theorem KI (p:ay) (s:PSt) (g:Int) (ho:OkS s) (hv:dw p s):AC Tryz.prog T bn 117 [aj p,encS s,.int g] [] (ints false (qc p s g)) []:=by
 refine aA hT Tryz.func117 rfl rfl (Nat.le_of_ble_eq_true rfl) ?_;refine sg rfl ?_;refine sq ?_;refine WP.ent (st':=aK [(3,.rp 26 (aj p)),(4,.rp 62 (encS s)),(2,.int g)] []) (em [(.s 3 0,1),(.s 4 0,1)] ⟨sF,sF,tt⟩ ⟨rq,rq,cq,tt⟩ trivial) ?_;refine rg [] rfl ?_;refine sq (sq (rgs [CG.pure (.bool (xE s g))] rfl ?_ ?_))
 ·have hq:=KD s g hv.2.1.2;exact au
 refine cd rfl (fun h2=>?_) (fun h2=>?_)
 ·have hl:xE s g=false:=by simpa using h2
  refine sg rfl ?_;refine WP.ret ?_;change Fin ..;refine aJ hT [] (ts:=[(6,ints false (qc p s g))]) (l:=[ints false (qc p s g)]) trivial ⟨⟨rfl,_,rfl,?_⟩,tt⟩ trivial rfl rfl rfl;rw [qc,if_neg (by rw [hl];decide)];exact dJ (by decide)
 ·have hl:xE s g=true:=by simpa using h2
  have h:=DK ho hv hl;have h6:=h.pos
  have hc4:=h.prog.chans;rw [show qc p s g=kU p s g from if_pos hl];refine sk (sq (sq (rgs [CG.pure (.int (atI p s g).op)] rfl ?_ ?_)))
  ·have hq:=CB p s g h;exact au
  refine cd rfl (fun h4=>?_) (fun h4=>?_)
  ·have e61:(atI p s g).op≠61:=by simpa using h4
   refine sq (sq (rgs [CG.pure (.bool (gY p s g))] rfl ?_ ?_))
   ·have hq:=O4 p s g h e61;exact au
   refine cd rfl (fun h5=>?_) (fun h5=>?_)
   ·refine rgs [] rfl ?_ ?_
    ·have hbt:(T 3).bytes=8:=rfl;exact au
    refine sg rfl ?_;refine WP.ret ?_;change Fin ..;have e:kU p s g=[0]:=by rw [kU,if_pos e61,if_pos h5]
    rw [e];refine aJ hT [(.s 28 0,1)] (ts:=[(6,ints false [0])]) (l:=[ints false [0]]) ⟨⟨_,rfl,Nat.le_refl _⟩,tt⟩ ⟨⟨rfl,_,rfl,?_⟩,tt⟩ trivial rfl rfl rfl;exact fG rfl rfl rfl (fun h=>by cases h) (by simp [dP,aI]) (fun q hq=>by obtain rfl:q=0:=Nat.lt_one_iff.1 hq;exact ⟨rfl,AEq.refl _⟩)
   ·refine sk (sq (rg [] rfl ?_));refine WP.ret ?_;change Fin ..;refine aJ hT [] (ts:=[(6,ints false (kU p s g))]) (l:=[ints false (kU p s g)]) trivial ⟨⟨rfl,_,rfl,?_⟩,tt⟩ trivial rfl rfl rfl;have e:kU p s g=[]:=by rw [kU,if_pos e61,if_neg (by rw [h5];decide)]
    rw [e];exact dJ (by decide)
  ·have e61:(atI p s g).op=61:=by simpa using h4
   have hse:=h.sel e61;have hsl:=hse.2.len
   have hbn:=hse.1;have hb2:=h.fit.2.1
   have hab:(insOf p (goI s g)).a=(atI p s g).a:=by unfold atI;split <;> rfl
   refine sk (sq (drs [] rfl ?_ ?_))
   ·simp only [bQ,dN,goI]at hbn hb2;exact au
   refine sq ?_;refine WP.ent (st':=aK [(8,.rp 100 (dI (dN p (goI s g)))),(2,.int g),(3,.rp 26 (aj p)),(4,.rp 62 (encS s)),(7,.nils)] []) (em [(.s 8 0,1)] ⟨sF,tt⟩ ⟨rq,cq,cq,cq,cq,tt⟩ trivial) ?_;refine drs [CG.pure (aP (insOf p (goI s g)))] rfl ?_ ?_
   ·have hq:=tu p s g h;simp only [bQ]at hbn;rw [← hab]at hbn;exact au
   refine sq (sq ?_);have hsq:(dN p (goI s g)).sels.getD (insOf p (goI s g)).a.toNat wL=dK p s g:=by rw [hab]
   refine WP.ent (st':=aK [(3,.rp 26 (aj p)),(4,.rp 62 (encS s)),(7,.nils),(9,.rp 103 (fD (dK p s g)))] []) ?_ ?_
   ·refine em [(.s 9 0,1)] ⟨sF,tt⟩ ⟨cq,cq,cq,⟨rfl,_,rfl,aZ rfl rfl (by decide) rfl ((aF _ _).trans (congrArg fD hsq)) rfl⟩,tt⟩ trivial
   refine rg [] rfl ?_;refine bk ?_;refine WP.loop (α:=Nat) (fun k=>aK [(3,.rp 26 (aj p)),(4,.rp 62 (encS s)),(7,.own (.s 83 0) (dZ p s (dK p s g) k).length 0 (dZ p s (dK p s g) k).length none),(9,.rp 103 (fD (dK p s g))),(10,.int k)] [(.s 83 0,sQ 3 .i64 (dZ p s (dK p s g) k))]) (fun k=>k≤(dK p s g).cases.length) (fun k=>(dK p s g).cases.length - k) ?_ ?_
   ·refine ⟨0,?_,?_⟩
    ·exact Nat.zero_le _
    ·refine em [] trivial ⟨cq,cq,⟨rfl,_,rfl,eU⟩,cq,cq,tt⟩ ⟨⟨fun _ _=>rfl,.inr ⟨rfl,3,_,rfl,by decide⟩⟩,tt⟩
   ·rintro k hk;have hcl:=uh p s (dK p s g) k
    refine sq (sq (rg [] rfl ?_));refine cd rfl (fun h11=>?_) (fun h11=>?_)
    ·have hkl:k<(dK p s g).cases.length:=by simp [-List.getD_eq_getElem?_getD]at h11;omega
     have hcp:=hse.2.case (aC (dK p s g) k) (by unfold aC;rw [List.getD_eq_getElem?_getD,List.getElem?_eq_getElem hkl];exact List.getElem_mem _);have hch:=hcp.chan
     refine sk (sq (bk (sq (rgs [] rfl ?_ ?_))))
     ·exact au
     refine sq ?_;refine WP.ent (st':=aK [(3,.rp 26 (aj p)),(4,.rp 62 (encS s)),(7,.own (.s 83 0) (dZ p s (dK p s g) k).length 0 (dZ p s (dK p s g) k).length none),(9,.rp 103 (fD (dK p s g))),(10,.int k),(11,.rp 215 (mP (aC (dK p s g) k)))] [(.s 83 0,sQ 3 .i64 (dZ p s (dK p s g) k))]) ?_ ?_
     ·refine em [(.s 11 0,1)] ⟨sF,tt⟩ ⟨cq,cq,cq,cq,cq,rq,tt⟩ ⟨obs rfl,tt⟩
     refine rgs [CG.pure (.bool (jl p s (aC (dK p s g) k).chan)),CG.pure (.bool (D6 s (aC (dK p s g) k).chan))] rfl ?_ ?_
     ·have hq:=FP p s (aC (dK p s g) k).chan hch hc4 (Ri h.prog hch);have hq2:=xZ s (aC (dK p s g) k).chan (by unfold bQ at hch;omega)
      exact au
     refine cd rfl (fun h14=>?_) (fun h14=>?_)
     ·have e:xM p s (aC (dK p s g) k)=true:=by simp only [bor,band]at h14;exact h14
      refine rgs [] rfl ?_ ?_
      ·have hbt:(T 3).bytes=8:=rfl;exact au
      refine rg [] rfl ?_;refine ⟨k+1,?_,?_,?_⟩
      ·exact hkl
      ·refine em [] trivial ⟨cq,cq,⟨rfl,_,rfl,ah (by rw [dZ,kS,if_pos e,bH])⟩,cq,cq,tt⟩ ⟨qA rfl rfl (by rw [dZ,kS,if_pos e,bH]) rfl rfl (by rw [dZ,kS,if_pos e];exact app1 (z:=(T 3).zero) rfl (fun q hq=>rfl)),tt⟩
      ·(try simp only []);first | omega | grind
     ·have e:xM p s (aC (dK p s g) k)=false:=by simp only [bor,band]at h14;exact h14
      have e2:dZ p s (dK p s g) (k+1)=dZ p s (dK p s g) k:=by rw [dZ,kS,if_neg (by rw [e];decide)]
      refine sk (rg [] rfl ?_);refine ⟨k+1,?_,?_,?_⟩
      ·exact hkl
      ·refine em [] trivial ⟨cq,cq,⟨rfl,_,rfl,ah (by rw [e2])⟩,cq,cq,tt⟩ ⟨qA rfl rfl (by rw [e2]) rfl rfl (fun q hq=>by rw [e2]),tt⟩
      ·(try simp only []);first | omega | grind
    ·have hkl:k=(dK p s g).cases.length:=by simp [-List.getD_eq_getElem?_getD]at h11;omega
     subst hkl;obtain ⟨L,hL⟩:∃ L,dZ p s (dK p s g) (dK p s g).cases.length=L:=⟨_,rfl⟩;have hal:kU p s g=kS L (dK p s g).cases.length (L.length==0&&(dK p s g).els != -1):=by rw [kU,if_neg (by simp [e61]),hL]
     have e2:(L.length==0&&(dK p s g).els != -1)=(bif ((L.length:Int)==0)then (dK p s g).els != -1 else false):=by rw [band];congr 1;rw [Bool.eq_iff_iff];simp
     rw [hL]at hcl ⊢;refine xt (sq (sq (rg [] rfl ?_)));refine cd rfl (fun h16=>?_) (fun h16=>?_)
     ·have e:kU p s g=L++[((dK p s g).cases.length:Int)]:=by rw [hal,e2,kS,if_pos h16]
      have hL0:L=[]:=by
       rw [band]at h16;have:(L.length:Int)=0:=by simpa using (Bool.and_eq_true_iff.1 h16).1
       exact List.length_eq_zero_iff.1 (by omega)
      subst hL0;refine rgs [] rfl ?_ ?_
      ·have hbt:(T 3).bytes=8:=rfl;exact au
      refine sg rfl ?_;refine WP.ret ?_;change Fin ..;rw [e];refine aJ hT [(.s 83 0,1)] (ts:=[(6,ints false [((dK p s g).cases.length:Int)])]) (l:=[ints false [((dK p s g).cases.length:Int)]]) ⟨⟨_,rfl,Nat.le_refl _⟩,tt⟩ ⟨⟨rfl,_,rfl,?_⟩,tt⟩ trivial rfl rfl rfl;exact fG rfl rfl rfl (fun h=>by cases h) (by simp [dP,aI]) (fun q hq=>by obtain rfl:q=0:=Nat.lt_one_iff.1 hq;exact ⟨rfl,AEq.refl _⟩)
     ·have e:kU p s g=L:=by rw [hal,e2,kS,if_neg (by rw [h16];decide)]
      refine sk (sq (rg [] rfl ?_));refine WP.ret ?_;change Fin ..;rw [e];refine aJ hT [(.s 83 0,L.length)] (ts:=[(6,ints false L)]) (l:=[ints false L]) ⟨⟨_,rfl,Nat.le_refl _⟩,tt⟩ ⟨⟨rfl,_,rfl,?_⟩,tt⟩ trivial rfl rfl rfl;exact fG rfl rfl rfl (fun h=>by cases h) (by simp [dP,aI]) (fun q hq=>by rw [Nat.zero_add];exact ⟨rfl,AEq.refl _⟩)
def rdR (p:ay) (s:PSt):Nat→List bI
 | 0=>[]
 | k+1=>rdR p s k++(qc p s k).map fun a=>⟨(k:Int),a⟩
theorem MI {p:ay} {s:PSt} {g:Int} (ho:OkS s) (hv:dw p s):(qc p s g).length≤5:=by
 unfold qc;split
 ·rename_i h;exact ES (DK ho hv h)
 ·simp
theorem Po {p:ay} {s:PSt} (ho:OkS s) (hv:dw p s):∀ k,(rdR p s k).length≤5*k
 | 0=>Nat.le_refl _
 | k+1=>by
  have h1:=Po ho hv k;have h2:=MI (g:=k) ho hv
  rw [rdR,List.length_append,List.length_map];omega
theorem XA {p:ay} {s:PSt} (hv:dw p s) {k:Nat} (hk:k<6):xE s k=uy (s.gos.getD k go0):=by
 unfold xE;rw [show decide (0≤(k:Int))=true from decide_eq_true (by omega),Bool.true_and];by_cases h:(k:Int)<s.count
 ·rw [decide_eq_true h,Bool.true_and];rfl
 ·rw [decide_eq_false h,Bool.false_and,(hv.2.2.2.2.1 k hk).2 (by omega)];rfl
theorem KG {p:ay} {s:PSt} (hv:dw p s):∀ k,k≤6→rdR p s k=(jX s k).flatMap (yJ p s)
 | 0,_=>rfl
 | k+1,h=>by
  rw [rdR,KG hv k (by omega),jX,List.flatMap_append,qc,XA hv (by omega)];congr 1;split
  ·simp [yJ]
  ·rfl
theorem yu {p:ay} {s:PSt} (hv:dw p s):∀ j,s.count.toNat+j≤6→jX s (s.count.toNat+j)=jX s s.count.toNat
 | 0,_=>rfl
 | j+1,h=>by
  have hc:=hv.2.1;rw [← Nat.add_assoc,jX,yu hv j (by omega),(hv.2.2.2.2.1 (s.count.toNat+j) (by omega)).2 (by omega),if_neg (by decide),List.append_nil]
theorem Xb {p:ay} {s:PSt} (hv:dw p s):rdR p s s.count.toNat=aN p s:=by
 have hc:=hv.2.1;rw [KG hv _ (by omega),aN,if_pos (by rw [vM,if_neg (by rw [hv.1];decide),if_neg (fun h=>h hv)]),← yu hv (6 - s.count.toNat) (by omega),show s.count.toNat+(6 - s.count.toNat)=6 by omega]
theorem O3 (p:ay) (s:PSt) (ho:OkS s) (hv:dw p s∨s=st0):AC Tryz.prog T bn 72 [aj p,encS s] [] (dS (aN p s)) []:=by
 refine aA hT Tryz.func72 rfl rfl (Nat.le_of_ble_eq_true rfl) ?_;refine sg rfl ?_;refine sq ?_;refine WP.ent (st':=aK [(2,.rp 26 (aj p)),(3,.rp 62 (encS s))] []) (em [(.s 2 0,1),(.s 3 0,1)] ⟨sF,sF,tt⟩ ⟨rq,rq,tt⟩ trivial) ?_;refine rg [] rfl ?_;refine sq (sq (rg [] rfl ?_));refine bk ?_;refine WP.loop (α:=Nat) (fun k=>aK [(2,.rp 26 (aj p)),(3,.rp 62 (encS s)),(5,.own (.s 33 0) (rdR p s k).length 0 (rdR p s k).length none),(6,.int k)] [(.s 33 0,bK 122 aV dX (rdR p s k))]) (fun k=>k≤s.count.toNat) (fun k=>s.count.toNat - k) ?_ ?_
 ·refine ⟨0,?_,?_⟩
  ·exact Nat.zero_le _
  ·refine em [] trivial ⟨cq,cq,⟨rfl,_,rfl,eU⟩,cq,tt⟩ ⟨⟨fun _ _=>rfl,.inr ⟨rfl,122,_,rfl,by decide⟩⟩,tt⟩
 ·rintro k hk;refine sq (sq (rg [] rfl ?_));refine cd rfl (fun h3=>?_) (fun h3=>?_)
  ·have hkc:(k:Int)<s.count:=by simp [-List.getD_eq_getElem?_getD]at h3;exact h3
   have hv1:dw p s:=by
    rcases hv with h | h
    ·exact h
    ·rw [h]at hkc;exact absurd hkc (by show ¬ (k:Int)<0;omega)
   have hc6:=hv1.2.1;have hle:=Po ho hv1 k
   have hl5:=MI (g:=k) ho hv1;refine sk (sq (bk (sq (rgs [CG.pure (ints false (qc p s k))] rfl ?_ ?_))))
   ·have hq:=KI p s k ho hv1;exact au
   refine sg rfl ?_;refine bk ?_;refine WP.loop (α:=Nat) (fun j=>aK [(2,.rp 26 (aj p)),(3,.rp 62 (encS s)),(5,.own (.s 33 0) (rdR p s k++((qc p s k).take j).map fun a=>(⟨(k:Int),a⟩:bI)).length 0 (rdR p s k++((qc p s k).take j).map fun a=>(⟨(k:Int),a⟩:bI)).length none),(6,.int k),(7,ints false (qc p s k)),(8,.int j)] [(.s 33 0,bK 122 aV dX (rdR p s k++((qc p s k).take j).map fun a=>(⟨(k:Int),a⟩:bI)))]) (fun j=>j≤(qc p s k).length) (fun j=>(qc p s k).length - j) ?_ ?_
   ·refine ⟨0,?_,?_⟩
    ·exact Nat.zero_le _
    ·refine em [] trivial ⟨cq,cq,⟨rfl,_,rfl,ah (by simp)⟩,cq,cq,cq,tt⟩ ⟨bU (kN _) rfl rfl (by simp) rfl rfl (fun q hq=>by simp),tt⟩
   ·rintro j hj;refine sq (sq (rg [] rfl ?_));refine cd rfl (fun h7=>?_) (fun h7=>?_)
    ·have hjl:j<(qc p s k).length:=by simp [-List.getD_eq_getElem?_getD]at h7;omega
     have e:((qc p s k).take (j+1)).map (fun a=>(⟨(k:Int),a⟩:bI))=((qc p s k).take j).map (fun a=>(⟨(k:Int),a⟩:bI))++[⟨(k:Int),(qc p s k).getD j 0⟩]:=by
      rw [List.take_add_one,List.getElem?_eq_getElem hjl,List.map_append,List.getD_eq_getElem?_getD,List.getElem?_eq_getElem hjl];rfl
     have hlj:(rdR p s k++((qc p s k).take j).map fun a=>(⟨(k:Int),a⟩:bI)).length≤100:=by rw [List.length_append,List.length_map,List.length_take];omega
     refine sk (sq (bk (rgs [] rfl ?_ ?_)))
     ·have hbt:(T 122).bytes=16:=rfl;exact au
     refine rg [] rfl ?_;refine ⟨j+1,?_,?_,?_⟩
     ·exact hjl
     ·refine em [] trivial ⟨cq,cq,⟨rfl,_,rfl,ah (by rw [e,← List.append_assoc,bH])⟩,cq,cq,cq,tt⟩ ⟨bU (kN _) rfl rfl (by rw [e,← List.append_assoc,bH]) rfl rfl (by rw [e,← List.append_assoc];exact JO (z:=(T 122).zero) rfl (bg fun q=>by match q with | 0 | 1 | q+2=>rfl) (fun q hq=>rfl)),tt⟩
     ·(try simp only []);first | omega | grind
    ·have hjl:j=(qc p s k).length:=by simp [-List.getD_eq_getElem?_getD]at h7;omega
     subst hjl;have e:rdR p s k++((qc p s k).take (qc p s k).length).map (fun a=>(⟨(k:Int),a⟩:bI))=rdR p s (k+1):=by rw [List.take_length,rdR]
     rw [e];refine xt (rg [] rfl ?_);refine ⟨k+1,?_,?_,?_⟩
     ·omega
     ·refine em [] trivial ⟨cq,cq,cq,cq,tt⟩ ⟨bU (kN _) rfl rfl rfl rfl rfl (fun q hq=>rfl),tt⟩
     ·(try simp only []);first | omega | grind
  ·have hkc:k=s.count.toNat:=by simp [-List.getD_eq_getElem?_getD]at h3;omega
   subst hkc;have e:rdR p s s.count.toNat=aN p s:=by
    rcases hv with h | h
    ·exact Xb h
    ·subst h;show []=aN p st0
     rw [aN,if_neg];unfold vM;split
     ·decide
     ·rw [if_pos (fun h=>by have:=h.2.1.1;revert this;decide)];decide
   rw [e];refine xt (sq (rg [] rfl ?_));refine WP.ret ?_;change Fin ..;refine aJ hT [(.s 33 0,(aN p s).length)] (ts:=[(4,dS (aN p s))]) (l:=[dS (aN p s)]) ⟨⟨_,rfl,Nat.le_refl _⟩,tt⟩ ⟨⟨rfl,_,rfl,?_⟩,tt⟩ trivial rfl rfl rfl;exact fG rfl rfl rfl (fun h=>by cases h) (by simp [dP,aI]) (fun q hq=>by rw [Nat.zero_add];exact ⟨rfl,AEq.refl _⟩)
open Go.Proofs Go.Sort
section
variable {α:Type} {f:α→Nat}
theorem zH:∀ {a b:List α},a.Pairwise (fun x y=>f x<f y)→b.Pairwise (fun x y=>f x<f y)→(∀ x,x∈a↔x∈b)→a=b
 | [],[],_,_,_=>rfl
 | [],y::b,_,_,h=>by have:=(h y).2 (by simp);cases this
 | x::a,[],_,_,h=>by have:=(h x).1 (by simp);cases this
 | x::a,y::b,ha,hb,h=>by
  rw [List.pairwise_cons]at ha hb;have e:x=y:=by
   have h1:=(h x).1 (by simp);have h2:=(h y).2 (by simp)
   rw [List.mem_cons]at h1 h2;rcases h1 with h1 | h1
   ·exact h1
   ·rcases h2 with h2 | h2
    ·exact h2.symm
    ·have:=ha.1 y h2;have:=hb.1 x h1
     omega
  subst e;rw [zH ha.2 hb.2 (fun z=>?_)];have hz:=h z
  rw [List.mem_cons,List.mem_cons]at hz;constructor
  ·intro hm;rcases hz.1 (.inr hm)with e | e
   ·subst e;exact absurd (ha.1 z hm) (Nat.lt_irrefl _)
   ·exact e
  ·intro hm;rcases hz.2 (.inr hm)with e | e
   ·subst e;exact absurd (hb.1 z hm) (Nat.lt_irrefl _)
   ·exact e
variable [DecidableEq α] {d:α}
theorem Hy {l:List α} (hs:l.Pairwise fun x y=>f x≤f y) (hu:∀ x∈l,∀ y∈l,f x=f y→x=y):∀ k,k≤l.length→(dd d l k).Pairwise (fun x y=>f x<f y) ∧ ∀ x,x∈dd d l k↔x∈l.take k
 | 0,_=>⟨List.Pairwise.nil,fun x=>by simp [dd]⟩
 | k+1,hk=>by
  obtain ⟨h1,h2⟩:=Hy hs hu k (by omega);have hkl:k<l.length:=hk
  have hget:l.getD k d=l[k]:=by simp [List.getD_eq_getElem?_getD,hkl]
  have ht:l.take (k+1)=l.take k++[l.getD k d]:=by rw [List.take_add_one,List.getElem?_eq_getElem hkl,hget];rfl
  rw [dd];split
  ·rename_i e;refine ⟨h1,fun x=>?_⟩;rw [h2,ht,List.mem_append,List.mem_singleton];refine ⟨.inl,fun h=>h.elim id fun e2=>?_⟩
   rw [e2,e.2];have hk1:k - 1<l.length:=by omega
   rw [List.mem_take_iff_getElem];exact ⟨k - 1,by omega,by simp [List.getD_eq_getElem?_getD,hk1]⟩
  ·rename_i e;constructor
   ·rw [List.pairwise_append];refine ⟨h1,List.pairwise_singleton _ _,fun x hx y hy=>?_⟩;rw [List.mem_singleton]at hy;subst hy;rw [h2,List.mem_take_iff_getElem]at hx;obtain ⟨m,hm,rfl⟩:=hx;have hs2:=List.pairwise_iff_getElem.1 hs
    have hk0:0<k:=by omega
    have e1:l[k - 1]≠l[k]:=by
     intro e2;refine e ⟨hk0,?_⟩;rw [hget,← e2];simp [List.getD_eq_getElem?_getD,show k - 1<l.length by omega]
    have e3:f l[k - 1]≤f l[k]:=hs2 (k - 1) k (by omega) hkl (by omega);have e3':f l[k - 1]≠f l[k]:=fun h=>e1 (hu _ (List.getElem_mem _) _ (List.getElem_mem _) h)
    have e4:f l[m]≤f l[k - 1]:=by
     by_cases e5:m=k - 1
     ·subst e5;exact Nat.le_refl _
     ·exact hs2 m (k - 1) (by omega) (by omega) (by omega)
    rw [hget];omega
   ·intro x;rw [List.mem_append,h2,ht,List.mem_append]
end
def lJ (x:BT):Nat:=8*x.k.val+x.n.val
theorem key_eq {x y:BT}:lJ x=lJ y↔x.k=y.k∧x.n=y.n:=by
 have h1:=x.n.isLt;have h2:=y.n.isLt
 unfold lJ;rw [← _root_.Fin.val_inj,← _root_.Fin.val_inj];omega
theorem Ql {x y:BT}:lJ x<lJ y↔(x.k.val<y.k.val∨x.k.val=y.k.val∧x.n.val<y.n.val):=by
 have h1:=x.n.isLt;have h2:=y.n.isLt
 unfold lJ;omega
theorem OB (l:List BT):(iF l).Pairwise fun x y=>lJ x≤lJ y:=by
 refine (DL Ot l).imp fun {a b} h=>?_;rw [yX]at h;have:=of_decide_eq_false h
 rw [← Ql]at this;omega
theorem wS (l:List BT) (x:BT):x∈iF l↔x∈l:=(IK Ot l).mem_iff
def lN (x:BT):List BT→List BT
 | []=>[x]
 | y::l=>if lJ y=lJ x then { y with w:=y.w||x.w}::l else if lJ x<lJ y then x::y::l else y::lN x l
theorem Dc {x:BT}:∀ {l:List BT},l.Pairwise (fun x y=>lJ x<lJ y)→(∀ y∈l,lJ y=lJ x→y=x)→(lN x l).Pairwise (fun x y=>lJ x<lJ y) ∧ ∀ z,z∈lN x l↔z=x∨z∈l
 | [],_,_=>⟨List.pairwise_singleton _ _,fun z=>by simp [lN]⟩
 | y::l,hs,hu=>by
  rw [List.pairwise_cons]at hs;rw [lN];split
  ·rename_i e;have e2:=hu y List.mem_cons_self e
   have e3:({ y with w:=y.w||x.w}:BT)=x:=by rw [e2];cases x;simp
   rw [e3,← e2];exact ⟨List.pairwise_cons.2 hs,fun z=>by simp⟩
  ·rename_i e;split
   ·rename_i h;refine ⟨List.pairwise_cons.2 ⟨fun z hz=>?_,List.pairwise_cons.2 hs⟩,fun z=>by simp⟩
    rcases List.mem_cons.1 hz with rfl | hz
    ·exact h
    ·exact Nat.lt_trans h (hs.1 z hz)
   ·rename_i h;obtain ⟨h1,h2⟩:=Dc hs.2 (fun z hz=>hu z (List.mem_cons_of_mem _ hz))
    refine ⟨List.pairwise_cons.2 ⟨fun z hz=>?_,h1⟩,fun z=>?_⟩
    ·rcases (h2 z).1 hz with rfl | hz
     ·omega
     ·exact hs.1 z hz
    ·rw [List.mem_cons,h2,List.mem_cons];constructor
     ·rintro (h | h | h)
      ·exact .inr (.inl h)
      ·exact .inl h
      ·exact .inr (.inr h)
     ·rintro (h | h | h)
      ·exact .inr (.inl h)
      ·exact .inl h
      ·exact .inr (.inr h)
theorem Dl {r:List BT} (hu:∀ x∈r,∀ y∈r,lJ x=lJ y→x=y):∀ (q l:List BT),(∀ x∈q,x∈r)→(∀ x∈l,x∈r)→l.Pairwise (fun x y=>lJ x<lJ y)→(q.foldl (fun l x=>lN x l) l).Pairwise (fun x y=>lJ x<lJ y) ∧ ∀ z,z∈q.foldl (fun l x=>lN x l) l↔z∈q∨z∈l
 | [],l,_,_,h=>⟨h,fun z=>by simp⟩
 | x::q,l,hq,hl,h=>by
  have hx:=hq x List.mem_cons_self;obtain ⟨h1,h2⟩:=Dc h (fun y hy=>hu y (hl y hy) x hx);obtain ⟨h3,h4⟩:=Dl hu q (lN x l) (fun z hz=>hq z (List.mem_cons_of_mem _ hz)) (fun z hz=>by
   rcases (h2 z).1 hz with rfl | hz
   ·exact hx
   ·exact hl z hz) h1
  refine ⟨h3,fun z=>?_⟩;rw [List.foldl_cons,h4,h2,List.mem_cons];constructor
  ·rintro (h | h | h)
   ·exact .inl (.inr h)
   ·exact .inl (.inl h)
   ·exact .inr h
  ·rintro ((h | h) | h)
   ·exact .inr (.inl h)
   ·exact .inl h
   ·exact .inr (.inr h)
def kuQ (z:BT) (X:List BT):Prop:=(∀ x∈X,∀ y∈X,lJ x=lJ y→x=y) ∧ ∀ x∈X,lJ x≠lJ z
theorem sG (k n:Int) (w:Bool):lJ (bt k n w)=8*(k.toNat % 8)+n.toNat % 8:=rfl
theorem Js {z x:BT} (h:lJ x≠lJ z):kuQ z [x]:=⟨fun a ha b hb _=>by rw [List.mem_singleton]at ha hb;rw [ha,hb],fun a ha=>by rw [List.mem_singleton]at ha;rw [ha];exact h⟩
theorem XF {z:BT}:kuQ z []:=⟨fun _ h=>(nomatch h),fun _ h=>(nomatch h)⟩
theorem Qi {z x y:BT} (h1:lJ x≠lJ z) (h2:lJ y≠lJ z) (h3:lJ x≠lJ y):kuQ z [x,y]:=by
 refine ⟨fun a ha b hb e=>?_,fun a ha=>?_⟩
 ·simp only [List.mem_cons,List.not_mem_nil,or_false]at ha hb;rcases ha with rfl | rfl <;> rcases hb with rfl | rfl
  ·rfl
  ·exact absurd e h3
  ·exact absurd e.symm h3
  ·rfl
 ·simp only [List.mem_cons,List.not_mem_nil,or_false]at ha;rcases ha with rfl | rfl
  ·exact h1
  ·exact h2
theorem XG {z:BT} {c:Prop} [Decidable c] {a b:List BT} (h1:c→kuQ z a) (h2:¬ c→kuQ z b):kuQ z (if c then a else b):=by
 by_cases h:c
 ·rw [if_pos h];exact h1 h
 ·rw [if_neg h];exact h2 h
theorem YR {p:ay} {s:PSt} {g:Int} (h:dR p s g):∀ x∈jQ p s g,∀ y∈jQ p s g,lJ x=lJ y→x=y:=by
 have hg:=h.pos;have hlt:=h.lt;have hc:=h.valid.2.1
 have hk:∀ (k n:Int) (w:Bool),(k=1∨k=2∨k=3∨k=4∨k=6)→lJ (bt k n w)≠lJ (bt 5 g true):=fun k n w hk=>by
  rw [sG,sG];omega
 have hq:kuQ (bt 5 g true) ((jQ p s g).tail):=by
  rw [show (jQ p s g).tail=_ from rfl]
  repeat' first | exact Js (hk _ _ _ (by decide)) | exact XF | refine XG (fun e=>?_) (fun _=>?_)
  ·refine ⟨fun x hx y hy e=>?_,fun x hx=>?_⟩
   ·obtain ⟨c,_,rfl⟩:=List.mem_map.1 hx;obtain ⟨d,_,rfl⟩:=List.mem_map.1 hy;have:=(key_eq.1 e).2
    show (⟨_,_,_⟩:BT)=⟨_,_,_⟩;congr 1
   ·obtain ⟨c,_,rfl⟩:=List.mem_map.1 hx;exact hk _ _ _ (by decide)
  ·split
   ·refine Qi (hk _ _ _ (by decide)) ?_ ?_ <;> rw [sG,sG] <;> omega
   ·exact Js (hk _ _ _ (by decide))
  ·split
   ·rename_i ht;simp only [iV,decide_eq_true_eq]at ht;refine Qi (hk _ _ _ (by decide)) ?_ ?_ <;> rw [sG,sG] <;> omega
   ·exact Js (hk _ _ _ (by decide))
 have e:jQ p s g=bt 5 g true::(jQ p s g).tail:=rfl;intro x hx y hy hxy;rw [e]at hx hy;rcases List.mem_cons.1 hx with rfl | hx
 ·rcases List.mem_cons.1 hy with rfl | hy
  ·rfl
  ·exact absurd hxy.symm (hq.2 y hy)
 ·rcases List.mem_cons.1 hy with rfl | hy
  ·exact absurd hxy (hq.2 x hx)
  ·exact hq.1 x hx y hy hxy
theorem MQ {p:ay} {s:PSt} {g:Int} (h:dR p s g):dO p s g=(jQ p s g).foldl (fun l x=>lN x l) []:=by
 have hu:=YR h;have hu2:∀ x∈iF (jQ p s g),∀ y∈iF (jQ p s g),lJ x=lJ y→x=y:=fun x hx y hy=>hu x ((wS _ _).1 hx) y ((wS _ _).1 hy)
 obtain ⟨h1,h2⟩:=Hy (d:=bt0) (OB (jQ p s g)) hu2 _ (Nat.le_refl _);obtain ⟨h3,h4⟩:=Dl hu (jQ p s g) [] (fun _ h=>h) (fun _ h=>nomatch h) List.Pairwise.nil;refine zH h1 h3 fun x=>?_;rw [dO,h2,h4,List.take_length,wS];simp
abbrev rowA (l:List BT):AV:=rowP 134 fH bt0 l
theorem y7 (x:BT):∀ l,(lN x l).length≤l.length+1
 | []=>Nat.le_refl _
 | y::l=>by
  have:=y7 x l;rw [lN];split
  ·simp
  split
  ·simp
  ·simp;omega
theorem Xd (l:List BT) (x:BT) (hl:l.length≤100):AC Tryz.prog T bn 203 [rowA l,.int x.k.val,.int x.n.val,.bool x.w] [] (rowA (lN x l)) []:=by
 refine aA hT Tryz.func203 rfl rfl (Nat.le_of_ble_eq_true rfl) ?_;refine WP.rowlen 0 rfl (fun hll=>?_);refine sg rfl ?_;refine sg rfl ?_;refine sg rfl ?_;refine sq (sq (rg [] rfl ?_));refine bk ?_;refine WP.loop (α:=Nat×List BT×Bool) (fun (⟨i,o,d⟩:Nat×List BT×Bool)=>aK [(0,rowA l),(1,.int x.k.val),(2,.int x.n.val),(3,.bool x.w),(9,.own (.s 73 0) o.length 0 o.length none),(10,.bool d),(11,.int i)] [(.s 73 0,bK 134 fH bt0 o)]) (fun (⟨i,o,d⟩:Nat×List BT×Bool)=>i≤l.length∧o++(if d then l.drop i else lN x (l.drop i))=lN x l∧o.length≤i+1∧(d=false→o.length≤i)) (fun (⟨i,o,d⟩:Nat×List BT×Bool)=>l.length - i) ?_ ?_
 ·refine ⟨⟨0,[],false⟩,?_,?_⟩
  ·exact ⟨Nat.zero_le _,rfl,Nat.zero_le _,fun _=>Nat.zero_le _⟩
  ·refine em [] trivial ⟨cq,cq,cq,cq,⟨rfl,_,rfl,eU⟩,cq,cq,tt⟩ ⟨⟨fun _ _=>rfl,.inr ⟨rfl,134,_,rfl,by decide⟩⟩,tt⟩
 ·rintro ⟨i,o,d⟩ ⟨hi,ho,hol,hol2⟩;refine sq (sq (rg [] rfl ?_));refine cd rfl (fun h4=>?_) (fun h4=>?_)
  ·have hil:i<l.length:=by simp [-List.getD_eq_getElem?_getD]at h4;omega
   obtain ⟨y,hy⟩:∃ y,l.getD i bt0=y:=⟨_,rfl⟩;have hdr:l.drop i=y::l.drop (i+1):=by rw [← hy,List.drop_eq_getElem_cons hil];simp [hil]
   rw [hdr]at ho;have hbt:(T 134).bytes=24:=rfl
   refine sk (sq (bk (sq (rg [] rfl ?_))));refine sq (sq ?_);refine WP.ent (st':=aK [(0,rowA l),(1,.int x.k.val),(2,.int x.n.val),(3,.bool x.w),(9,.own (.s 73 0) o.length 0 o.length none),(10,.bool d),(11,.int i),(12,.ptr (.s 12 0) 1 0 [])] [(.s 12 0,.cells ⟨134,1,fun _=>fH y,0⟩),(.s 73 0,bK 134 fH bt0 o)]) ?_ ?_
   ·refine em [] trivial ⟨cq,cq,cq,cq,cq,cq,cq,cq,tt⟩ ⟨obs rfl (hg:=q0 (ah ((aF _ _).trans (congrArg fH hy)))),obs rfl,tt⟩
   refine rg [] rfl ?_;refine cd rfl (fun h7=>?_) (fun h7=>?_)
   ·have h8:d=false∧lJ y=lJ x:=by
     rw [key_eq];have hh:(bif (bif !d then ((y.k.val:Nat):Int)==x.k.val else false)then ((y.n.val:Nat):Int)==x.n.val else false)=true:=h7
     cases d with
     | true=>cases hh
     | false =>
      simp only [band,Bool.and_eq_true,beq_iff_eq,Bool.not_false,true_and]at hh;exact ⟨rfl,_root_.Fin.ext (by omega),_root_.Fin.ext (by omega)⟩
    obtain ⟨rfl,hk⟩:=h8;rw [show lN x (y::l.drop (i+1))={ y with w:=y.w||x.w}::l.drop (i+1) by rw [lN,if_pos hk]]at ho;refine sg rfl ?_;refine rg [] rfl ?_;refine sq (sq (rg [] rfl ?_));refine cd rfl (fun h10=>?_) (fun h10=>?_)
    ·cases h10
    ·refine sk (rgs [] rfl ?_ ?_)
     ·exact au
     refine rg [] rfl ?_;refine ⟨⟨i+1,o++[{ y with w:=y.w||x.w}],true⟩,?_,?_,?_⟩
     ·exact ⟨hil,by rw [← ho];simp,by rw [bH];have:=hol2 rfl;omega,fun h=>nomatch h⟩
     ·refine em [] trivial ⟨cq,cq,cq,cq,⟨rfl,_,rfl,ah (by rw [bH])⟩,cq,cq,tt⟩ ⟨bU (bY _) rfl rfl (by rw [bH]) rfl rfl (JO (z:=(T 134).zero) rfl (bg fun q=>by match q with | 0 | 1 | 3=>rfl | 2=>(show AV.bool (bif y.w then true else x.w)=AV.bool (y.w||x.w);rw [bor]) | q+4=>rfl) (fun q hq=>rfl)),tt⟩
     ·(try simp only []);first | omega | grind
   ·have h8:d=true∨¬ lJ y=lJ x:=by
     rw [key_eq];have hh:(bif (bif !d then ((y.k.val:Nat):Int)==x.k.val else false)then ((y.n.val:Nat):Int)==x.n.val else false)=false:=h7
     cases d with
     | true=>exact .inl rfl
     | false =>
      refine .inr fun ⟨e1,e2⟩=>?_;rw [e1,e2]at hh;simp at hh
    refine sk (sq (sq (rg [] rfl ?_)));refine cd rfl (fun h10=>?_) (fun h10=>?_)
    ·have h11:d=false∧lJ x<lJ y:=by
      rw [Ql];have hh:(bif !d then (bif decide (((y.k.val:Nat):Int)>x.k.val)then true else (bif ((y.k.val:Nat):Int)==x.k.val then decide (((y.n.val:Nat):Int)>x.n.val)else false))else false)=true:=h10
      cases d with
      | true=>cases hh
      | false =>
       simp only [band,bor,Bool.and_eq_true,Bool.or_eq_true,beq_iff_eq,decide_eq_true_eq,Bool.not_false,true_and]at hh;exact ⟨rfl,by omega⟩
     obtain ⟨rfl,hk⟩:=h11;have hne:¬ lJ y=lJ x:=by omega
     rw [show lN x (y::l.drop (i+1))=x::y::l.drop (i+1) by rw [lN,if_neg hne,if_pos hk]]at ho;refine sq (rgs [] rfl ?_ ?_)
     ·exact au
     refine rg [] rfl ?_;refine rgs [] rfl ?_ ?_
     ·exact au
     refine rg [] rfl ?_;refine ⟨⟨i+1,o++[x]++[y],true⟩,?_,?_,?_⟩
     ·exact ⟨hil,by rw [← ho];simp,by rw [bH,bH];have:=hol2 rfl;omega,fun h=>nomatch h⟩
     ·refine em [] trivial ⟨cq,cq,cq,cq,⟨rfl,_,rfl,ah (by rw [bH,bH])⟩,cq,cq,tt⟩ ⟨bU (bY _) rfl rfl (by rw [bH,bH]) rfl rfl (JO (l:=o++[x]) (z:=(T 134).zero) (by rw [bH]) rfl (JO (z:=(T 134).zero) rfl (bg fun q=>by match q with | 0 | 1 | 2 | q+3=>rfl) (fun q hq=>rfl))),tt⟩
     ·(try simp only []);first | omega | grind
    ·have h11:d=true∨¬ lJ x<lJ y:=by
      rw [Ql];have hh:(bif !d then (bif decide (((y.k.val:Nat):Int)>x.k.val)then true else (bif ((y.k.val:Nat):Int)==x.k.val then decide (((y.n.val:Nat):Int)>x.n.val)else false))else false)=false:=h10
      cases d with
      | true=>exact .inl rfl
      | false =>
       refine .inr fun e=>?_;simp only [band,bor,Bool.not_false,Bool.true_and]at hh;simp at hh;omega
     refine sk (rgs [] rfl ?_ ?_)
     ·exact au
     refine rg [] rfl ?_;refine ⟨⟨i+1,o++[y],d⟩,?_,?_,?_⟩
     ·refine ⟨hil,?_,by rw [bH];omega,fun h=>by rw [bH];have:=hol2 h;omega⟩;rw [← ho];cases d with
      | true=>simp
      | false =>
       have h1:=h8.resolve_left (by decide);have h2:=h11.resolve_left (by decide)
       rw [show lN x (y::l.drop (i+1))=y::lN x (l.drop (i+1)) by rw [lN,if_neg h1,if_neg h2]];simp
     ·refine em [] trivial ⟨cq,cq,cq,cq,⟨rfl,_,rfl,ah (by rw [bH])⟩,cq,cq,tt⟩ ⟨bU (bY _) rfl rfl (by rw [bH]) rfl rfl (JO (z:=(T 134).zero) rfl rfl (fun q hq=>rfl)),tt⟩
     ·(try simp only []);first | omega | grind
  ·have hil:i=l.length:=by simp [-List.getD_eq_getElem?_getD]at h4;omega
   subst hil;rw [List.drop_length]at ho;have hbt:(T 134).bytes=24:=rfl
   refine xt (sq (sq (rg [] rfl ?_)));refine cd rfl (fun h14=>?_) (fun h14=>?_)
   ·have hd:d=false:=by simpa using h14
    subst hd;have ho2:o++[x]=lN x l:=ho
    refine rgs [] rfl ?_ ?_
    ·exact au
    refine sq ?_;refine WP.ent (st':=aK [(9,.own (.s 73 0) (o++[x]).length 0 (o++[x]).length none)] [(.s 73 0,bK 134 fH bt0 (o++[x]))]) ?_ ?_
    ·refine em [] trivial ⟨⟨rfl,_,rfl,ah (by rw [bH])⟩,tt⟩ ⟨bU (bY _) rfl rfl (by rw [bH]) rfl rfl (JO (z:=(T 134).zero) rfl (bg fun q=>by match q with | 0 | 1 | 2 | q+3=>rfl) (fun q hq=>rfl)),tt⟩
    refine rg [] rfl ?_;refine WP.ret ?_;change Fin ..;rw [← ho2];refine aJ hT [(.s 73 0,(o++[x]).length)] (ts:=[(8,rowA (o++[x]))]) (l:=[rowA (o++[x])]) ⟨⟨_,rfl,Nat.le_refl _⟩,tt⟩ ⟨⟨rfl,_,rfl,?_⟩,tt⟩ trivial rfl rfl rfl;exact fG rfl rfl rfl (fun h=>by cases h) (by simp [dP,aI]) (fun q hq=>by rw [Nat.zero_add];exact ⟨rfl,AEq.refl _⟩)
   ·have hd:d=true:=by simpa using h14
    subst hd;have ho2:o=lN x l:=by rw [← ho];simp
    refine sk (sq (rg [] rfl ?_));refine WP.ret ?_;change Fin ..;rw [← ho2];refine aJ hT [(.s 73 0,o.length)] (ts:=[(8,rowA o)]) (l:=[rowA o]) ⟨⟨_,rfl,Nat.le_refl _⟩,tt⟩ ⟨⟨rfl,_,rfl,?_⟩,tt⟩ trivial rfl rfl rfl;exact fG rfl rfl rfl (fun h=>by cases h) (by simp [dP,aI]) (fun q hq=>by rw [Nat.zero_add];exact ⟨rfl,AEq.refl _⟩)
theorem kK (l:List BT) {k n:Int} (w:Bool) (hl:l.length≤100) (hk:0≤k∧k<8) (hn:0≤n∧n<8):AC Tryz.prog T bn 203 [rowA l,.int k,.int n,.bool w] [] (rowA (lN (bt k n w) l)) []:=by
 have h:=Xd l (bt k n w) hl;have e1:(((bt k n w).k.val:Nat):Int)=k:=by show ((k.toNat % 8:Nat):Int)=k;omega
 have e2:(((bt k n w).n.val:Nat):Int)=n:=by show ((n.toNat % 8:Nat):Int)=n;omega
 rw [e1,e2]at h;exact h
theorem TN {k n:Int} (w:Bool) (hk:0≤k∧k<8) (hn:0≤n∧n<8):AC Tryz.prog T bn 203 [.v (.slice none 0 0),.int k,.int n,.bool w] [] (rowA [bt k n w]) []:=by
 refine AC.args hT (kK [] w (by decide) hk hn) rfl (fun i a c ha hc=>?_)
 match i,ha,hc with
 | 0,ha,hc=>cases ha;cases hc;exact dJ (by decide)
 | 1,ha,hc=>cases ha;cases hc;exact ah rfl
 | 2,ha,hc=>cases ha;cases hc;exact ah rfl
 | 3,ha,hc=>cases ha;cases hc;exact ah rfl
def S9 (p:ay) (s:PSt) (g:Int) (k:Nat):List BT:=(jo ((dK p s g).cases.take k)).foldl (fun l x=>lN x l) [bt 5 g true]
theorem LM:∀ (q l:List BT),(q.foldl (fun l x=>lN x l) l).length≤q.length+l.length
 | [],l=>by simp
 | x::q,l=>by
  have h1:=LM q (lN x l);have h2:=y7 x l
  rw [List.foldl_cons,List.length_cons];omega
theorem SY (p:ay) (s:PSt) (g:Int) (k:Nat):(S9 p s g k).length≤k+1:=by
 have:=LM (jo ((dK p s g).cases.take k)) [bt 5 g true];rw [jo,List.length_map,List.length_take]at this;unfold S9 jo;simp at this ⊢;omega
theorem OM {p:ay} {s:PSt} {g:Int} {k:Nat} (hk:k<(dK p s g).cases.length):S9 p s g (k+1)=lN (bt 3 (aC (dK p s g) k).chan true) (S9 p s g k):=by
 rw [S9,← Bl hk,List.foldl_append];rfl
theorem OX (p:ay) (s:PSt) (g:Int) (h:dR p s g):AC Tryz.prog T bn 140 [aj p,encS s,.int g] [] (rowA (dO p s g)) []:=by
 refine aA hT Tryz.func140 rfl rfl (Nat.le_of_ble_eq_true rfl) ?_;have h6:=h.pos
 have hc4:=h.prog.chans;have hc6:=h.valid.2.1
 have hrg:=h.rng;have hat:=h.at
 have hab:(insOf p (goI s g)).a=(atI p s g).a∧(insOf p (goI s g)).b=(atI p s g).b:=by unfold atI;split <;> exact ⟨rfl,rfl⟩
 have htf:=MQ h;refine sg rfl ?_;refine sq ?_;refine WP.ent (st':=aK [(3,.rp 26 (aj p)),(4,.rp 62 (encS s)),(2,.int g)] []) (em [(.s 3 0,1),(.s 4 0,1)] ⟨sF,sF,tt⟩ ⟨rq,rq,cq,tt⟩ trivial) ?_;refine rgs [CG.pure (aP (insOf p (goI s g)))] rfl ?_ ?_
 ·have hq:=tu p s g h;exact au
 refine sq ?_;refine WP.ent (st':=aK [(7,.rp 120 (aP (insOf p (goI s g)))),(2,.int g),(3,.rp 26 (aj p)),(4,.rp 62 (encS s))] []) (em [(.s 7 0,1)] ⟨sF,tt⟩ ⟨rq,cq,cq,cq,tt⟩ trivial) ?_;refine rgs [CG.pure (rowA [bt 5 g true])] rfl ?_ ?_
 ·have hq:=TN (k:=5) (n:=g) true (by decide) (by omega);exact au
 refine WP.seqJ (α:=Unit) (fun _=>aK [(8,rowA (dO p s g))] []) (fun _=>True) ?_ ?_
 ·refine sq (rgs [CG.pure (.int (atI p s g).op)] rfl ?_ ?_)
  ·have hq:=CB p s g h;exact au
  refine bk (sq (rg [] rfl ?_));refine cd rfl (fun h4=>?_) (fun h4=>?_)
  ·have e:(atI p s g).op=50:=by simpa using h4
   have hbb:=hrg.1 (by omega);have hraw:jQ p s g=[bt 5 g true,bt 1 (atI p s g).b false]:=by rw [jQ,e];rfl
   rw [← hab.2]at hbb hraw;refine rgs [CG.pure (rowA (lN (bt 1 (insOf p (goI s g)).b false) [bt 5 g true]))] rfl ?_ ?_
   ·have hq:=kK [bt 5 g true] (k:=1) (n:=(insOf p (goI s g)).b) false (by simp) (by decide) hbb;exact au
   refine ⟨(),?_,?_⟩
   ·trivial
   ·refine em [] trivial ⟨⟨rfl,_,rfl,ah (by rw [htf,hraw];rfl)⟩,tt⟩ trivial
  ·have n50:(atI p s g).op≠50:=by simpa using h4
   refine sg rfl ?_;refine cd rfl (fun h6=>?_) (fun h6=>?_)
   ·have e:(atI p s g).op=54:=by simpa using h6
    have hbb:=hrg.2 (by omega);have hraw:jQ p s g=[bt 5 g true,bt 1 (atI p s g).a false]:=by rw [jQ,e];rfl
    rw [← hab.1]at hbb hraw;refine rgs [CG.pure (rowA (lN (bt 1 (insOf p (goI s g)).a false) [bt 5 g true]))] rfl ?_ ?_
    ·have hq:=kK [bt 5 g true] (k:=1) (n:=(insOf p (goI s g)).a) false (by simp) (by decide) hbb;exact au
    refine ⟨(),?_,?_⟩
    ·trivial
    ·refine em [] trivial ⟨⟨rfl,_,rfl,ah (by rw [htf,hraw];rfl)⟩,tt⟩ trivial
   ·have n54:(atI p s g).op≠54:=by simpa using h6
    refine sg rfl ?_;refine cd rfl (fun h8=>?_) (fun h8=>?_)
    ·have e:(atI p s g).op=51:=by simpa using h8
     have hbb:=hrg.2 (by omega);have hraw:jQ p s g=[bt 5 g true,bt 1 (atI p s g).a true]:=by rw [jQ,e];rfl
     rw [← hab.1]at hbb hraw;refine rgs [CG.pure (rowA (lN (bt 1 (insOf p (goI s g)).a true) [bt 5 g true]))] rfl ?_ ?_
     ·have hq:=kK [bt 5 g true] (k:=1) (n:=(insOf p (goI s g)).a) true (by simp) (by decide) hbb;exact au
     refine ⟨(),?_,?_⟩
     ·trivial
     ·refine em [] trivial ⟨⟨rfl,_,rfl,ah (by rw [htf,hraw];rfl)⟩,tt⟩ trivial
    ·have n51:(atI p s g).op≠51:=by simpa using h8
     refine WP.seqJ (α:=Bool) (fun d=>aK [(2,.int g),(3,.rp 26 (aj p)),(4,.rp 62 (encS s)),(7,.rp 120 (aP (insOf p (goI s g)))),(8,rowA [bt 5 g true]),(21,.int (atI p s g).op),(40,.bool d)] []) (fun d=>d=decide ((atI p s g).op=52∨(atI p s g).op=53)) ?_ ?_
     ·refine sg rfl ?_;refine cd rfl (fun h10=>?_) (fun h10=>?_)
      ·have e:(atI p s g).op=52:=by simpa using h10
       refine sk ?_;refine ⟨((atI p s g).op==52),?_,?_⟩
       ·rw [e];rfl
       ·refine em [] trivial ⟨cq,cq,cq,cq,cq,cq,cq,tt⟩ trivial
      ·have n52:(atI p s g).op≠52:=by simpa using h10
       refine rg [] rfl ?_;refine ⟨((atI p s g).op==53),?_,?_⟩
       ·rw [Bool.eq_iff_iff];simp;omega
       ·refine em [] trivial ⟨cq,cq,cq,cq,cq,cq,cq,tt⟩ trivial
     ·rintro d hd;refine cd rfl (fun h11=>?_) (fun h11=>?_)
      ·have e:(atI p s g).op=52∨(atI p s g).op=53:=by rw [h11]at hd;exact of_decide_eq_true hd.symm
       have hbb:=hrg.1 (by omega);have hraw:jQ p s g=[bt 5 g true,bt 1 (atI p s g).b true]:=by rcases e with e | e <;> (rw [jQ,e];rfl)
       rw [← hab.2]at hbb hraw;refine rgs [CG.pure (rowA (lN (bt 1 (insOf p (goI s g)).b true) [bt 5 g true]))] rfl ?_ ?_
       ·have hq:=kK [bt 5 g true] (k:=1) (n:=(insOf p (goI s g)).b) true (by simp) (by decide) hbb;exact au
       refine ⟨(),?_,?_⟩
       ·trivial
       ·refine em [] trivial ⟨⟨rfl,_,rfl,ah (by rw [htf,hraw];rfl)⟩,tt⟩ trivial
      ·have nn11:¬ ((atI p s g).op=52∨(atI p s g).op=53):=by rw [h11]at hd;exact of_decide_eq_false hd.symm
       refine WP.seqJ (α:=Bool) (fun d=>aK [(2,.int g),(3,.rp 26 (aj p)),(4,.rp 62 (encS s)),(7,.rp 120 (aP (insOf p (goI s g)))),(8,rowA [bt 5 g true]),(21,.int (atI p s g).op),(47,.bool d)] []) (fun d=>d=decide ((atI p s g).op=55∨(atI p s g).op=56)) ?_ ?_
       ·refine sg rfl ?_;refine cd rfl (fun h13=>?_) (fun h13=>?_)
        ·have e:(atI p s g).op=55:=by simpa using h13
         refine sk ?_;refine ⟨((atI p s g).op==55),?_,?_⟩
         ·rw [e];rfl
         ·refine em [] trivial ⟨cq,cq,cq,cq,cq,cq,cq,tt⟩ trivial
        ·have n55:(atI p s g).op≠55:=by simpa using h13
         refine rg [] rfl ?_;refine ⟨((atI p s g).op==56),?_,?_⟩
         ·rw [Bool.eq_iff_iff];simp;omega
         ·refine em [] trivial ⟨cq,cq,cq,cq,cq,cq,cq,tt⟩ trivial
       ·rintro d hd;refine cd rfl (fun h14=>?_) (fun h14=>?_)
        ·have e:(atI p s g).op=55∨(atI p s g).op=56:=by rw [h14]at hd;exact of_decide_eq_true hd.symm
         have hbb:=hrg.2 (by omega);have hraw:jQ p s g=[bt 5 g true,bt 2 (atI p s g).a true]:=by rcases e with e | e <;> (rw [jQ,e];rfl)
         rw [← hab.1]at hbb hraw;refine rgs [CG.pure (rowA (lN (bt 2 (insOf p (goI s g)).a true) [bt 5 g true]))] rfl ?_ ?_
         ·have hq:=kK [bt 5 g true] (k:=2) (n:=(insOf p (goI s g)).a) true (by simp) (by decide) hbb;exact au
         refine ⟨(),?_,?_⟩
         ·trivial
         ·refine em [] trivial ⟨⟨rfl,_,rfl,ah (by rw [htf,hraw];rfl)⟩,tt⟩ trivial
        ·have nn14:¬ ((atI p s g).op=55∨(atI p s g).op=56):=by rw [h14]at hd;exact of_decide_eq_false hd.symm
         refine sg rfl ?_;refine cd rfl (fun h16=>?_) (fun h16=>?_)
         ·have e:(atI p s g).op=57:=by simpa using h16
          have hbb:=hrg.1 (by omega);have hraw:jQ p s g=[bt 5 g true,bt 2 (atI p s g).b true]:=by rw [jQ,e];rfl
          rw [← hab.2]at hbb hraw;refine rgs [CG.pure (rowA (lN (bt 2 (insOf p (goI s g)).b true) [bt 5 g true]))] rfl ?_ ?_
          ·have hq:=kK [bt 5 g true] (k:=2) (n:=(insOf p (goI s g)).b) true (by simp) (by decide) hbb;exact au
          refine ⟨(),?_,?_⟩
          ·trivial
          ·refine em [] trivial ⟨⟨rfl,_,rfl,ah (by rw [htf,hraw];rfl)⟩,tt⟩ trivial
         ·have n57:(atI p s g).op≠57:=by simpa using h16
          refine WP.seqJ (α:=Bool) (fun d=>aK [(2,.int g),(3,.rp 26 (aj p)),(4,.rp 62 (encS s)),(7,.rp 120 (aP (insOf p (goI s g)))),(8,rowA [bt 5 g true]),(21,.int (atI p s g).op),(60,.bool d)] []) (fun d=>d=decide ((atI p s g).op=58∨(atI p s g).op=60∨(atI p s g).op=66)) ?_ ?_
          ·refine sg rfl ?_;refine cd rfl (fun h18=>?_) (fun h18=>?_)
           ·have e:(atI p s g).op=58:=by simpa using h18
            refine sk ?_;refine ⟨((atI p s g).op==58),?_,?_⟩
            ·rw [e];rfl
            ·refine em [] trivial ⟨cq,cq,cq,cq,cq,cq,cq,tt⟩ trivial
           ·have n58:(atI p s g).op≠58:=by simpa using h18
            refine sg rfl ?_;refine cd rfl (fun h19=>?_) (fun h19=>?_)
            ·have e:(atI p s g).op=60:=by simpa using h19
             refine sk ?_;refine ⟨((atI p s g).op==60),?_,?_⟩
             ·rw [e];rfl
             ·refine em [] trivial ⟨cq,cq,cq,cq,cq,cq,cq,tt⟩ trivial
            ·have n60:(atI p s g).op≠60:=by simpa using h19
             refine rg [] rfl ?_;refine ⟨((atI p s g).op==66),?_,?_⟩
             ·rw [Bool.eq_iff_iff];simp;omega
             ·refine em [] trivial ⟨cq,cq,cq,cq,cq,cq,cq,tt⟩ trivial
          ·rintro d hd;refine cd rfl (fun h20=>?_) (fun h20=>?_)
           ·have e:(atI p s g).op=58∨(atI p s g).op=60∨(atI p s g).op=66:=by rw [h20]at hd;exact of_decide_eq_true hd.symm
            have hbb:=hrg.2 (by omega);have hraw:jQ p s g=[bt 5 g true,bt 3 (atI p s g).a true]:=by rcases e with e | e | e <;> (rw [jQ,e];rfl)
            rw [← hab.1]at hbb hraw;refine rgs [CG.pure (rowA (lN (bt 3 (insOf p (goI s g)).a true) [bt 5 g true]))] rfl ?_ ?_
            ·have hq:=kK [bt 5 g true] (k:=3) (n:=(insOf p (goI s g)).a) true (by simp) (by decide) hbb;exact au
            refine ⟨(),?_,?_⟩
            ·trivial
            ·refine em [] trivial ⟨⟨rfl,_,rfl,ah (by rw [htf,hraw];rfl)⟩,tt⟩ trivial
           ·have nn20:¬ ((atI p s g).op=58∨(atI p s g).op=60∨(atI p s g).op=66):=by rw [h20]at hd;exact of_decide_eq_false hd.symm
            refine sg rfl ?_;refine cd rfl (fun h22=>?_) (fun h22=>?_)
            ·have e:(atI p s g).op=59:=by simpa using h22
             have hbb:=hrg.1 (by omega);have hraw:jQ p s g=[bt 5 g true,bt 3 (atI p s g).b true]:=by rw [jQ,e];rfl
             rw [← hab.2]at hbb hraw;refine rgs [CG.pure (rowA (lN (bt 3 (insOf p (goI s g)).b true) [bt 5 g true]))] rfl ?_ ?_
             ·have hq:=kK [bt 5 g true] (k:=3) (n:=(insOf p (goI s g)).b) true (by simp) (by decide) hbb;exact au
             refine ⟨(),?_,?_⟩
             ·trivial
             ·refine em [] trivial ⟨⟨rfl,_,rfl,ah (by rw [htf,hraw];rfl)⟩,tt⟩ trivial
            ·have n59:(atI p s g).op≠59:=by simpa using h22
             refine sg rfl ?_;refine cd rfl (fun h24=>?_) (fun h24=>?_)
             ·have e61:(atI p s g).op=61:=by simpa using h24
              have hse:=h.sel e61;have hsl:=hse.2.len
              have hbn:=hse.1;have hb2:=h.fit.2.1
              have hraw:jQ p s g=[bt 5 g true]++jo (dK p s g).cases:=by rw [jQ,e61];rfl
              have hsq:(dN p (goI s g)).sels.getD (insOf p (goI s g)).a.toNat wL=dK p s g:=by rw [hab.1]
              refine sq (drs [] rfl ?_ ?_)
              ·simp only [bQ,dN,goI]at hbn hb2;rw [← hab.1]at hbn;simp only [insOf,goI,dN]at hbn;exact au
              refine sq ?_;refine WP.ent (st':=aK [(8,rowA [bt 5 g true]),(9,.rp 103 (fD (dK p s g)))] []) ?_ ?_
              ·refine em [(.s 9 0,1)] ⟨sF,tt⟩ ⟨cq,⟨rfl,_,rfl,aZ rfl rfl (by decide) rfl ((aF _ _).trans (congrArg fD hsq)) rfl⟩,tt⟩ trivial
              refine rg [] rfl ?_;refine bk ?_;refine WP.loop (α:=Nat) (fun k=>aK [(8,rowA (S9 p s g k)),(9,.rp 103 (fD (dK p s g))),(10,.int k)] []) (fun k=>k≤(dK p s g).cases.length) (fun k=>(dK p s g).cases.length - k) ?_ ?_
              ·refine ⟨0,?_,?_⟩
               ·exact Nat.zero_le _
               ·refine em [] trivial ⟨cq,cq,cq,tt⟩ trivial
              ·rintro k hk;refine sq (sq (rg [] rfl ?_));refine cd rfl (fun h27=>?_) (fun h27=>?_)
               ·have hkl:k<(dK p s g).cases.length:=by simp [-List.getD_eq_getElem?_getD]at h27;omega
                have hcp:=hse.2.case (aC (dK p s g) k) (by unfold aC;rw [List.getD_eq_getElem?_getD,List.getElem?_eq_getElem hkl];exact List.getElem_mem _);have hch:=hcp.chan
                unfold bQ at hch;refine sk (sq (bk (rgs [CG.pure (rowA (lN (bt 3 (aC (dK p s g) k).chan true) (S9 p s g k)))] rfl ?_ ?_)))
                ·have hq:=kK (S9 p s g k) (k:=3) (n:=(aC (dK p s g) k).chan) true (by have:=SY p s g k;omega) (by decide) (by omega);exact au
                refine rg [] rfl ?_;refine ⟨k+1,?_,?_,?_⟩
                ·exact hkl
                ·refine em [] trivial ⟨⟨rfl,_,rfl,ah (by rw [OM hkl];rfl)⟩,cq,cq,tt⟩ trivial
                ·(try simp only []);first | omega | grind
               ·have hkl:k=(dK p s g).cases.length:=by simp [-List.getD_eq_getElem?_getD]at h27;omega
                refine xt ?_;refine ⟨(),?_,?_⟩
                ·trivial
                ·refine em [] trivial ⟨⟨rfl,_,rfl,ah (by rw [htf,hraw,hkl,S9,List.take_length];rfl)⟩,tt⟩ trivial
             ·have n61:(atI p s g).op≠61:=by simpa using h24
              refine sg rfl ?_;refine cd rfl (fun h30=>?_) (fun h30=>?_)
              ·have e62:(atI p s g).op=62:=by simpa using h30
               refine sq (rgs [CG.pure (rowA (lN (bt 4 0 true) [bt 5 g true]))] rfl ?_ ?_)
               ·have hq:=kK [bt 5 g true] (k:=4) (n:=0) true (by simp) (by decide) (by decide);exact au
               refine sg rfl ?_;refine cd rfl (fun h32=>?_) (fun h32=>?_)
               ·have hct:s.count<6:=by simp [-List.getD_eq_getElem?_getD]at h32;exact h32
                have hraw:jQ p s g=[bt 5 g true,bt 4 0 true,bt 5 s.count true]:=by rw [jQ,e62];simp [hct]
                refine rgs [CG.pure (rowA (lN (bt 5 s.count true) (lN (bt 4 0 true) [bt 5 g true])))] rfl ?_ ?_
                ·have hq:=kK (lN (bt 4 0 true) [bt 5 g true]) (k:=5) (n:=s.count) true (by have:=y7 (bt 4 0 true) [bt 5 g true];simp at this;omega) (by decide) (by omega);exact au
                refine ⟨(),?_,?_⟩
                ·trivial
                ·refine em [] trivial ⟨⟨rfl,_,rfl,ah (by rw [htf,hraw];rfl)⟩,tt⟩ trivial
               ·have hct:¬ s.count<6:=by simp [-List.getD_eq_getElem?_getD]at h32;omega
                have hraw:jQ p s g=[bt 5 g true,bt 4 0 true]:=by rw [jQ,e62];simp [hct]
                refine sk ?_;refine ⟨(),?_,?_⟩
                ·trivial
                ·refine em [] trivial ⟨⟨rfl,_,rfl,ah (by rw [htf,hraw];rfl)⟩,tt⟩ trivial
              ·have n62:(atI p s g).op≠62:=by simpa using h30
               refine sg rfl ?_;refine cd rfl (fun h34=>?_) (fun h34=>?_)
               ·have e63:(atI p s g).op=63:=by simpa using h34
                have hbb:=hat.join (.inl e63);rw [← hab.1]at hbb;refine sq (rgs [CG.pure (rowA (lN (bt 4 0 false) [bt 5 g true]))] rfl ?_ ?_)
                ·have hq:=kK [bt 5 g true] (k:=4) (n:=0) false (by simp) (by decide) (by decide);exact au
                refine sq (drs [] rfl ?_ ?_)
                ·exact au
                refine sq ?_;obtain ⟨j,hj⟩:∃ j,bZ (goI s g) (insOf p (goI s g)).a=j:=⟨_,rfl⟩;have hraw:jQ p s g=[bt 5 g true,bt 4 0 false]++(if iV s g j then [bt 5 j false]else []):=by rw [jQ,e63,← hj,hab.1];rfl
                have hself:lN (bt 5 g false) (lN (bt 4 0 false) [bt 5 g true])=lN (bt 4 0 false) [bt 5 g true]:=by
                 have k1:lJ (bt 5 g true)=40+g.toNat % 8:=sG 5 g true;have k2:lJ (bt 5 g false)=40+g.toNat % 8:=sG 5 g false
                 have k3:lJ (bt 4 0 false)=32:=rfl;rw [lN,if_neg (by omega),if_pos (by omega),lN,if_neg (by omega),if_neg (by omega),lN,if_pos (by omega)];rfl
                refine WP.ent (st':=aK [(8,rowA (lN (bt 4 0 false) [bt 5 g true])),(4,.rp 62 (encS s)),(11,.int j)] []) ?_ ?_
                ·refine em [] trivial ⟨cq,cq,⟨rfl,_,rfl,ah (by rw [← hj])⟩,tt⟩ trivial
                refine rg [] rfl ?_;refine cd rfl (fun h37=>?_) (fun h37=>?_)
                ·have hj2:0≤j∧j<s.count:=by simp only [band]at h37;simpa using h37
                 have hcase:dO p s g=lN (bt 5 j false) (lN (bt 4 0 false) [bt 5 g true]):=by
                  rw [htf,hraw];by_cases hjg:j=g
                  ·rw [if_neg (by simp [iV,hjg]),hjg,hself];rfl
                  ·rw [if_pos (by simp [iV,hjg,hj2])];rfl
                 refine rgs [CG.pure (rowA (lN (bt 5 j false) (lN (bt 4 0 false) [bt 5 g true])))] rfl ?_ ?_
                 ·have hq:=kK (lN (bt 4 0 false) [bt 5 g true]) (k:=5) (n:=j) false (by have:=y7 (bt 4 0 false) [bt 5 g true];simp at this;omega) (by decide) (by omega);exact au
                 refine ⟨(),?_,?_⟩
                 ·trivial
                 ·refine em [] trivial ⟨⟨rfl,_,rfl,ah (by rw [hcase];rfl)⟩,tt⟩ trivial
                ·have hj2:¬ (0≤j∧j<s.count):=by simp only [band]at h37;simpa using h37
                 refine sk ?_;refine ⟨(),?_,?_⟩
                 ·trivial
                 ·refine em [] trivial ⟨⟨rfl,_,rfl,ah (by rw [htf,hraw,if_neg (by simp [iV];omega)];rfl)⟩,tt⟩ trivial
               ·have n63:(atI p s g).op≠63:=by simpa using h34
                refine sg rfl ?_;refine cd rfl (fun h39=>?_) (fun h39=>?_)
                ·have e65:(atI p s g).op=65:=by simpa using h39
                 have hraw:jQ p s g=[bt 5 g true,bt 6 0 true]:=by rw [jQ,e65];rfl
                 refine rgs [CG.pure (rowA (lN (bt 6 0 true) [bt 5 g true]))] rfl ?_ ?_
                 ·have hq:=kK [bt 5 g true] (k:=6) (n:=0) true (by simp) (by decide) (by decide);exact au
                 refine ⟨(),?_,?_⟩
                 ·trivial
                 ·refine em [] trivial ⟨⟨rfl,_,rfl,ah (by rw [htf,hraw];rfl)⟩,tt⟩ trivial
                ·have n65:(atI p s g).op≠65:=by simpa using h39
                 have hraw:jQ p s g=[bt 5 g true]:=by
                  rw [jQ,if_neg (by omega),if_neg (by omega),if_neg (by omega),if_neg (by omega),if_neg (by omega),if_neg (by omega),if_neg (by omega),if_neg (by omega),if_neg (by omega),if_neg (by omega),if_neg (by omega),if_neg (by omega),if_neg (by omega),if_neg (by omega),if_neg (by omega),if_neg (by omega)];rfl
                 refine sk ?_;refine ⟨(),?_,?_⟩
                 ·trivial
                 ·refine em [] trivial ⟨⟨rfl,_,rfl,ah (by rw [htf,hraw];rfl)⟩,tt⟩ trivial
 ·rintro _ h_inv;refine sg rfl ?_;exact WP.ret (aJ hT [] (ts:=[(6,rowA (dO p s g))]) (l:=[rowA (dO p s g)]) trivial ⟨⟨rfl,_,rfl,ah rfl⟩,tt⟩ trivial rfl rfl rfl)
structure RD where
 s:PSt
 val:Int
 why:Int
 to:Int
def gB (d:RD):AV:=cu 301 [encS d.s,.int d.val,.int d.why,.int d.to]
theorem jd {d:RD} {q:List Nat} {y:AV} {s':PSt} (e:(encS d.s).put q y=encS s'):(gB d).put (0::q) y=gB { d with s:=s'}:=(bG (Nat.le_of_ble_eq_true rfl)).trans (congrArg (fun z=>cu 301 [z,.int d.val,.int d.why,.int d.to]) e)
theorem kE (d:RD) (x:Int):(gB d).put [1] (.int x)=gB { d with val:=x}:=bG (Nat.le_of_ble_eq_true rfl)
theorem tJ (d:RD) (x:Int):(gB d).put [2] (.int x)=gB { d with why:=x}:=bG (Nat.le_of_ble_eq_true rfl)
theorem Jc (d:RD) (x:Int):(gB d).put [3] (.int x)=gB { d with to:=x}:=bG (Nat.le_of_ble_eq_true rfl)
abbrev jP (m:PM) (to:Int):RD:=⟨m.s,m.val,0,to⟩
theorem D8 (b:Bool):AC Tryz.prog T bn 274 [.bool b] [] (.int (jM b)) []:=by
 refine aA hT Tryz.func274 rfl rfl (Nat.le_of_ble_eq_true rfl) ?_;refine sg rfl ?_;refine sq (sq (rg [] rfl ?_));refine cd rfl (fun h1=>?_) (fun h1=>?_)
 ·refine sg rfl ?_;refine WP.ret ?_;change Fin ..;refine cZ hT (by rfl) ?_;simp_all [jM]
 ·refine sk (sq (rg [] rfl ?_));refine WP.ret ?_;change Fin ..;refine cZ hT (by rfl) ?_;simp_all [jM]
theorem qm (m:PM) (h:OkM m) (r v:Int) (hr:r<8):AC Tryz.prog T bn 273 [encS m.s,.int m.g,.int r,.int v] [] (encS (bJ m r v).s) []:=by
 refine aA hT Tryz.func273 rfl rfl (Nat.le_of_ble_eq_true rfl) ?_;have hg:=h.g
 have hr8:(aQ m).regs.length=8:=fJ h.s _;refine sg rfl ?_;refine sq (sq (rg [] rfl ?_));refine cd rfl (fun h1=>?_) (fun h1=>?_)
 ·have h0:0≤r:=by simpa using h1
  refine rgs [] rfl ?_ ?_
  ·exact au
  refine sg rfl ?_;refine WP.ret ?_;change Fin ..;refine aO hT rfl rfl rfl rfl rfl (ah ((aF _ _).trans ?_)) rfl rfl rfl;rw [bJ,if_pos h0];exact lu (by rw [h.s.gos];omega) (jc v (by show r.toNat<(aQ m).regs.length;omega))
 ·have h0:¬ 0≤r:=by simp at h1;omega
  refine sk (sq (rg [] rfl ?_));refine WP.ret ?_;change Fin ..;refine aO hT rfl rfl rfl rfl rfl (ah ((aF _ _).trans ?_)) rfl rfl rfl;rw [bJ,if_neg h0];rfl
theorem Jd (c x:iM):(dW c).put [] (dW x)=dW x:=aF _ _
def mQ (p:ay) (m:PM) (to c v:Int):RD:=if (chI m.s c).closed=true then ⟨m.s,m.val,4,to⟩else ⟨(iK p m c v).s,v,0,if 0<p.chans.getD c.toNat 0 then to else -1⟩
theorem KA (p:ay) (m:PM) (to c v:Int) (h:OkM m) (hc:bQ c p.chans.length) (hp:qV p) (hs:jl p m.s c=true) (hlen:0≤(chI m.s c).len):AC Tryz.prog T bn 255 [aj p,gB (jP m to),.int m.g,.int c,.int v] [] (gB (mQ p m to c v)) []:=by
 refine aA hT Tryz.func255 rfl rfl (Nat.le_of_ble_eq_true rfl) ?_;have hc4:=hp.chans
 have hcap:p.chans.getD c.toNat 0≤4:=(hp.caps _ (by unfold bQ at hc;rw [List.getD_eq_getElem?_getD,List.getElem?_eq_getElem (show c.toNat<p.chans.length by omega)];exact List.getElem_mem _)).2;unfold bQ at hc;have hcc:0≤c∧c<4:=by omega
 have hb:(chI m.s c).buf.length=4:=jh h.s _;have hg:=h.g
 have hcl4:c.toNat<m.s.chans.length:=by rw [h.s.chans];omega
 have hgl6:m.g.toNat<m.s.gos.length:=by rw [h.s.gos];omega
 refine sg rfl ?_;refine sq ?_;refine WP.ent (st':=aK [(5,.rp 26 (aj p)),(2,.int m.g),(3,.int c),(4,.int v),(6,.ptr (.s 6 0) 1 0 []),(10,.ptr (.s 10 0) 1 0 [])] [(.s 6 0,.cells ⟨301,1,fun _=>gB (jP m to),0⟩),(.s 10 0,.cells ⟨301,1,fun _=>(T 301).zero,0⟩)]) (em [(.s 5 0,1)] ⟨sF,tt⟩ ⟨rq,cq,cq,cq,cq,cq,tt⟩ ⟨obs rfl,obs rfl,tt⟩) ?_;refine rgs [] rfl ?_ ?_
 ·exact au
 refine sq (sq ?_);refine WP.ent (st':=aK [(2,.int m.g),(3,.int c),(4,.int v),(5,.rp 26 (aj p)),(6,.ptr (.s 6 0) 1 0 []),(10,.ptr (.s 10 0) 1 0 []),(11,.ptr (.s 11 0) 1 0 [])] [(.s 6 0,.cells ⟨301,1,fun _=>gB (jP m to),0⟩),(.s 10 0,.cells ⟨301,1,fun _=>(T 301).zero,0⟩),(.s 11 0,.cells ⟨56,1,fun _=>dW (chI m.s c),0⟩)]) ?_ ?_
 ·refine em [] trivial ⟨cq,cq,cq,cq,cq,cq,cq,tt⟩ ⟨obs rfl,obs rfl,obs rfl (hg:=q0 (ah (aF _ _))),tt⟩
 refine rg [] rfl ?_;refine cd rfl (fun h2=>?_) (fun h2=>?_)
 ·have hcl:(chI m.s c).closed=true:=h2;refine sg rfl ?_;refine sg rfl ?_;refine WP.ret ?_;change Fin ..;refine aO hT rfl rfl rfl rfl rfl (ah ((aF _ _).trans ?_)) rfl rfl rfl;rw [mQ,if_pos hcl];exact tJ (jP m to) 4
 ·have hcl:¬ (chI m.s c).closed=true:=fun e=>by rw [e]at h2;cases h2
  refine sk (sq (sq (rgs [] rfl ?_ ?_)))
  ·exact au
  refine cd rfl (fun h5=>?_) (fun h5=>?_)
  ·have hpos:0<p.chans.getD c.toNat 0:=by simp [-List.getD_eq_getElem?_getD]at h5;omega
   have hll:(chI m.s c).len<p.chans.getD c.toNat 0:=by
    have:=hs;simp only [jl,Bool.or_eq_true,Bool.and_eq_true,decide_eq_true_eq,beq_iff_eq]at this;rcases this with (h1 | h1) | h1
    ·exact absurd h1 hcl
    ·exact h1.2
    ·omega
   refine sq (rgs [] rfl ?_ ?_)
   ·exact au
   refine rg [] rfl ?_;refine sq (rgs [] rfl ?_ ?_)
   ·exact au
   refine sg rfl ?_;refine sg rfl ?_;refine WP.ret ?_;change Fin ..;refine aO hT rfl rfl rfl rfl rfl (ah ((aF _ _).trans ?_)) rfl rfl rfl;rw [mQ,if_neg hcl,if_pos hpos,iK,if_neg hcl,if_pos hpos];have e1:((dW (chI m.s c)).put [0,(chI m.s c).len.toNat] (.int v)).put [1] (.int (IntKind.i64.wrap ((chI m.s c).len+1)))=dW { mY (chI m.s c) (chI m.s c).len v with len:=(chI m.s c).len+1}:=by
    rw [rU v (by omega),bC (by omega) (by omega)];exact pJ _ _
   show ((gB (jP m to)).put [0,2,c.toNat] (((dW (chI m.s c)).put [0,(chI m.s c).len.toNat] (.int v)).put [1] (.int (IntKind.i64.wrap ((chI m.s c).len+1))))).put [1] (.int v)=_;rw [e1,jd (rO hcl4 (Jd _ _)),kE]
  ·have hpos:¬ 0<p.chans.getD c.toNat 0:=by simp [-List.getD_eq_getElem?_getD]at h5;omega
   refine sg rfl ?_;refine sg rfl ?_;refine sg rfl ?_;refine sq (rgs [] rfl ?_ ?_)
   ·exact au
   refine rg [] rfl ?_;refine sq (rgs [] rfl ?_ ?_)
   ·exact au
   refine sg rfl ?_;refine sg rfl ?_;refine WP.ret ?_;change Fin ..;refine aO hT rfl rfl rfl rfl rfl (ah ((aF _ _).trans ?_)) rfl rfl rfl;rw [mQ,if_neg hcl,if_neg hpos,iK,if_neg hcl,if_neg hpos];have e1:(((dW (chI m.s c)).put [3] (.int 1)).put [4] (.int m.g)).put [5] (.int v)=dW { chI m.s c with offer:=1,frm:=m.g,val:=v}:=by
    rw [iy,rP,jV]
   show ((((gB (jP m to)).put [0,3,m.g.toNat,0] (.int 2)).put [3] (.int (-1))).put [0,2,c.toNat] ((((dW (chI m.s c)).put [3] (.int 1)).put [4] (.int m.g)).put [5] (.int v))).put [1] (.int v)=_;rw [e1,jd (lu hgl6 (dV _ 2)),Jc,jd (rO hcl4 (Jd _ _)),kE]
def uG (m:PM) (to c:Int):RD:=if (chI m.s c).closed=true then ⟨m.s,m.val,5,to⟩else jP (nX m c) to
theorem Nl (m:PM) (to c:Int) (h:OkM m) (hc:0≤c∧c<4):AC Tryz.prog T bn 257 [gB (jP m to),.int c] [] (gB (uG m to c)) []:=by
 refine aA hT Tryz.func257 rfl rfl (Nat.le_of_ble_eq_true rfl) ?_;have hcl4:c.toNat<m.s.chans.length:=by rw [h.s.chans];omega
 refine sg rfl ?_;refine sq (rgs [] rfl ?_ ?_)
 ·exact au
 refine sq (sq ?_);refine WP.ent (st':=aK [(1,.int c),(2,.ptr (.s 2 0) 1 0 []),(4,.ptr (.s 4 0) 1 0 []),(5,.ptr (.s 5 0) 1 0 [])] [(.s 2 0,.cells ⟨301,1,fun _=>gB (jP m to),0⟩),(.s 4 0,.cells ⟨301,1,fun _=>(T 301).zero,0⟩),(.s 5 0,.cells ⟨56,1,fun _=>dW (chI m.s c),0⟩)]) ?_ ?_
 ·refine em [] trivial ⟨cq,cq,cq,cq,tt⟩ ⟨obs rfl,obs rfl,obs rfl (hg:=q0 (ah (aF _ _))),tt⟩
 refine rg [] rfl ?_;refine cd rfl (fun h2=>?_) (fun h2=>?_)
 ·have hcl:(chI m.s c).closed=true:=h2;refine sg rfl ?_;refine sg rfl ?_;refine WP.ret ?_;change Fin ..;refine aO hT rfl rfl rfl rfl rfl (ah ((aF _ _).trans ?_)) rfl rfl rfl;rw [uG,if_pos hcl];exact tJ (jP m to) 5
 ·have hcl:¬ (chI m.s c).closed=true:=fun e=>by rw [e]at h2;cases h2
  refine sk (sq (rg [] rfl ?_));refine sq (sq (rg [] rfl ?_));refine cd rfl (fun h6=>?_) (fun h6=>?_)
  ·have ho:(chI m.s c).offer=1:=by simp [-List.getD_eq_getElem?_getD]at h6;exact h6
   refine sg rfl ?_;refine rg [] rfl ?_;refine sq (rgs [] rfl ?_ ?_)
   ·exact au
   refine sg rfl ?_;refine WP.ret ?_;change Fin ..;refine aO hT rfl rfl rfl rfl rfl (ah ((aF _ _).trans ?_)) rfl rfl rfl;rw [uG,if_neg hcl,nX,if_neg hcl,if_pos ho];show (gB (jP m to)).put [0,2,c.toNat] ((((dW (chI m.s c)).put [2] (.bool true)).put [3] (.int 3)).put [5] (.int 0))=_
   rw [rQ,iy,jV,jd (rO hcl4 (Jd _ _))]
  ·have ho:¬ (chI m.s c).offer=1:=by simp [-List.getD_eq_getElem?_getD]at h6;exact h6
   refine sk (sq (rgs [] rfl ?_ ?_))
   ·exact au
   refine sg rfl ?_;refine WP.ret ?_;change Fin ..;refine aO hT rfl rfl rfl rfl rfl (ah ((aF _ _).trans ?_)) rfl rfl rfl;rw [uG,if_neg hcl,nX,if_neg hcl,if_neg ho];show (gB (jP m to)).put [0,2,c.toNat] ((dW (chI m.s c)).put [2] (.bool true))=_
   rw [rQ,jd (rO hcl4 (Jd _ _))]
def uZ (m:PM) (to c:Int):RD:={ jP (jK m c) to with why:=if (chI m.s c).offer=3 then 4 else 0}
theorem OZ (m:PM) (to c:Int) (h:OkM m) (hc:0≤c∧c<4):AC Tryz.prog T bn 254 [gB (jP m to),.int m.g,.int c] [] (gB (uZ m to c)) []:=by
 refine aA hT Tryz.func254 rfl rfl (Nat.le_of_ble_eq_true rfl) ?_;have hcl4:c.toNat<m.s.chans.length:=by rw [h.s.chans];omega
 have hg:=h.g;have hgl6:m.g.toNat<m.s.gos.length:=by rw [h.s.gos];omega
 refine sg rfl ?_;refine sq (rgs [] rfl ?_ ?_)
 ·exact au
 refine sq (sq ?_);refine WP.ent (st':=aK [(1,.int m.g),(2,.int c),(3,.ptr (.s 3 0) 1 0 []),(6,.ptr (.s 6 0) 1 0 []),(7,.ptr (.s 7 0) 1 0 [])] [(.s 3 0,.cells ⟨301,1,fun _=>gB (jP m to),0⟩),(.s 6 0,.cells ⟨301,1,fun _=>(T 301).zero,0⟩),(.s 7 0,.cells ⟨56,1,fun _=>dW (chI m.s c),0⟩)]) ?_ ?_
 ·refine em [] trivial ⟨cq,cq,cq,cq,cq,tt⟩ ⟨obs rfl,obs rfl,obs rfl (hg:=q0 (ah (aF _ _))),tt⟩
 refine rg [] rfl ?_;refine cd rfl (fun h2=>?_) (fun h2=>?_)
 ·have ho:(chI m.s c).offer=3:=by simp [-List.getD_eq_getElem?_getD]at h2;exact h2
  refine rg [] rfl ?_;refine sg rfl ?_;refine sg rfl ?_;refine sg rfl ?_;refine sq (rgs [] rfl ?_ ?_)
  ·exact au
  refine sq (rgs [] rfl ?_ ?_)
  ·exact au
  refine sg rfl ?_;refine WP.ret ?_;change Fin ..;refine aO hT rfl rfl rfl rfl rfl (ah ((aF _ _).trans ?_)) rfl rfl rfl;rw [uZ,if_pos ho];show (((gB (jP m to)).put [2] (.int 4)).put [0,2,c.toNat] ((((dW (chI m.s c)).put [3] (.int 0)).put [4] (.int 0)).put [5] (.int 0))).put [0,3,m.g.toNat,0] (.int 1)=_
  rw [iy,rP,jV,tJ,jd (rO hcl4 (Jd _ _)),jd (lu hgl6 (dV _ 1))];rfl
 ·have ho:¬ (chI m.s c).offer=3:=by simp [-List.getD_eq_getElem?_getD]at h2;exact h2
  refine sk (sq (rg [] rfl ?_));refine sg rfl ?_;refine sg rfl ?_;refine sq (rgs [] rfl ?_ ?_)
  ·exact au
  refine sq (rgs [] rfl ?_ ?_)
  ·exact au
  refine sg rfl ?_;refine WP.ret ?_;change Fin ..;refine aO hT rfl rfl rfl rfl rfl (ah ((aF _ _).trans ?_)) rfl rfl rfl;rw [uZ,if_neg ho];show ((gB (jP m to)).put [0,2,c.toNat] ((((dW (chI m.s c)).put [3] (.int 0)).put [4] (.int 0)).put [5] (.int 0))).put [0,3,m.g.toNat,0] (.int 1)=_
  rw [iy,rP,jV,jd (rO hcl4 (Jd _ _)),jd (lu hgl6 (dV _ 1))];rfl
theorem VN (m:PM) (x r v:Int):bJ { m with val:=x} r v={ bJ m r v with val:=x}:=by unfold bJ;split <;> rfl
theorem lV (m:PM) (r v:Int):(bJ m r v).val=m.val:=by unfold bJ;split <;> rfl
theorem yj (m:PM) (r v:Int):(bJ m r v).g=m.g:=by unfold bJ;split <;> rfl
def BA (l:List Int) (k:Nat):List Int:=(List.range 4).map fun i=>if i<k then l.getD (i+1) 0 else l.getD i 0
theorem Kr (l:List Int) (k:Nat):(BA l k).length=4:=by simp [BA]
theorem WI (l:List Int) (k:Nat) {i:Nat} (h:i<4):(BA l k).getD i 0=if i<k then l.getD (i+1) 0 else l.getD i 0:=by
 simp [BA,h]
theorem YG {l:List Int} (h:l.length=4):BA l 0=l:=by
 match l,h with
 | [a,b,c,d],_=>rfl
theorem SQ {l:List Int} {k:Nat} (h:k+1<4):(BA l k).set k ((BA l k).getD (k+1) 0)=BA l (k+1):=by
 rw [WI l k h,if_neg (by omega)];refine List.ext_getElem (by simp [BA]) fun i h1 h2=>?_;rw [List.getElem_set];simp only [BA,List.getElem_map,List.getElem_range];split
 ·subst_vars;rw [if_pos (by omega)]
 ·by_cases e:i<k
  ·rw [if_pos e,if_pos (by omega)]
  ·rw [if_neg e,if_neg (by omega)]
theorem SS {l:List Int} (h:l.length=4) {k:Nat} (hk:k<4) (hz:∀ i,k<i→i<4→l.getD i 0=0):(BA l k).set k 0=(iY l).set k 0:=by
 match l,h with
 | [a,b,c,d],_ =>
  have h1:=hz 1;have h2:=hz 2;have h3:=hz 3
  simp only [List.getD_cons_succ,List.getD_cons_zero]at h1 h2 h3
  match k,hk with
  | 0,_=>simp [BA,iY,List.range_succ,h1 (by omega) (by omega),h2 (by omega) (by omega),h3 (by omega) (by omega)]
  | 1,_=>simp [BA,iY,List.range_succ,h2 (by omega) (by omega),h3 (by omega) (by omega)]
  | 2,_=>simp [BA,iY,List.range_succ,h3 (by omega) (by omega)]
  | 3,_=>simp [BA,iY,List.range_succ]
def D7 (x:iM):iM×Int×Bool :=
 if 0<x.len then ({ x with buf:=(iY x.buf).set (x.len - 1).toNat 0,len:=x.len - 1},x.buf.getD 0 0,true)else
 if x.offer=1 then ({ x with offer:=2,val:=0},x.val,true)else (x,0,false)
theorem set_self {α:Type} {l:List α} {k:Nat} {d:α} (h:k<l.length):l.set k (l.getD k d)=l:=by
 rw [List.getD_eq_getElem?_getD,List.getElem?_eq_getElem h];exact List.set_getElem_self h
theorem Pm {m:PM} {c:Int} (h:c.toNat<m.s.chans.length):dM m c=(bM { m with val:=(D7 (chI m.s c)).2.1} c (D7 (chI m.s c)).1,(D7 (chI m.s c)).2.2):=by
 unfold dM D7;split
 ·rfl
 split
 ·rfl
 ·show _=((⟨{ m.s with chans:=m.s.chans.set c.toNat (m.s.chans.getD c.toNat ch0) },m.g,m.fuel,0,m.over⟩:PM),false);rw [set_self h]
def rG (m:PM) (to c r ok:Int):RD:=jP (bJ (bJ (dM m c).1 r (dM m c).1.val) ok (jM (dM m c).2)) to
theorem KC (m:PM) (to c r ok:Int) (h:OkM m) (hc:0≤c∧c<4) (hl:0≤(chI m.s c).len∧(chI m.s c).len≤4) (hz:∀ i:Nat,(chI m.s c).len≤i→i<4→(chI m.s c).buf.getD i 0=0) (hr:r<8) (hk:ok<8):AC Tryz.prog T bn 256 [gB (jP m to),.int m.g,.int c,.int r,.int ok] [] (gB (rG m to c r ok)) []:=by
 refine aA hT Tryz.func256 rfl rfl (Nat.le_of_ble_eq_true rfl) ?_;have hb:(chI m.s c).buf.length=4:=jh h.s _
 have hg:=h.g;have hcl4:c.toNat<m.s.chans.length:=by rw [h.s.chans];omega
 refine sg rfl ?_;refine sq (rgs [] rfl ?_ ?_)
 ·exact au
 refine sq ?_;obtain ⟨x,hx⟩:∃ x,chI m.s c=x:=⟨_,rfl⟩;rw [hx]at hb hl hz;have hrc:rG m to c r ok=jP (bJ (bJ (bM { m with val:=(D7 x).2.1} c (D7 x).1) r (D7 x).2.1) ok (jM (D7 x).2.2)) to:=by
  rw [rG,Pm hcl4,hx]
 refine WP.ent (st':=aK [(1,.int m.g),(2,.int c),(3,.int r),(4,.int ok),(5,.ptr (.s 5 0) 1 0 []),(10,.ptr (.s 10 0) 1 0 []),(11,.ptr (.s 11 0) 1 0 [])] [(.s 5 0,.cells ⟨301,1,fun _=>gB (jP m to),0⟩),(.s 10 0,.cells ⟨301,1,fun _=>(T 301).zero,0⟩),(.s 11 0,.cells ⟨56,1,fun _=>dW x,0⟩)]) ?_ ?_
 ·refine em [] trivial ⟨cq,cq,cq,cq,cq,cq,cq,tt⟩ ⟨obs rfl,obs rfl,obs rfl (hg:=q0 (ah ((aF _ _).trans (congrArg dW hx)))),tt⟩
 refine rg [] rfl ?_;refine sg rfl ?_;refine WP.seqJ (α:=Unit) (fun _=>aK [(1,.int m.g),(2,.int c),(3,.int r),(4,.int ok),(5,.ptr (.s 5 0) 1 0 []),(10,.ptr (.s 10 0) 1 0 []),(11,.ptr (.s 11 0) 1 0 []),(12,.int (D7 x).2.1),(13,.bool (D7 x).2.2)] [(.s 5 0,.cells ⟨301,1,fun _=>gB (jP m to),0⟩),(.s 10 0,.cells ⟨301,1,fun _=>(T 301).zero,0⟩),(.s 11 0,.cells ⟨56,1,fun _=>dW (D7 x).1,0⟩)]) (fun _=>True) ?_ ?_
 ·refine sg rfl ?_;refine cd rfl (fun h4=>?_) (fun h4=>?_)
  ·have h0:0<x.len:=by simpa using h4
   have e1:D7 x=({ x with buf:=(iY x.buf).set (x.len - 1).toNat 0,len:=x.len - 1},x.buf.getD 0 0,true):=by rw [D7,if_pos h0]
   refine sg rfl ?_;refine sq (sq (rg [] rfl ?_));refine bk ?_;refine WP.loop (α:=Nat) (fun k=>aK [(1,.int m.g),(2,.int c),(3,.int r),(4,.int ok),(5,.ptr (.s 5 0) 1 0 []),(10,.ptr (.s 10 0) 1 0 []),(11,.ptr (.s 11 0) 1 0 []),(12,.int (x.buf.getD 0 0)),(13,.bool true),(14,.int k)] [(.s 5 0,.cells ⟨301,1,fun _=>gB (jP m to),0⟩),(.s 10 0,.cells ⟨301,1,fun _=>(T 301).zero,0⟩),(.s 11 0,.cells ⟨56,1,fun _=>dW { x with buf:=BA x.buf k},0⟩)]) (fun k=>(k:Int)<x.len) (fun k=>4 - k) ?_ ?_
   ·refine ⟨0,?_,?_⟩
    ·exact h0
    ·refine em [] trivial ⟨cq,cq,cq,cq,cq,cq,cq,cq,cq,cq,tt⟩ ⟨obs rfl,obs rfl,obs rfl (hg:=q0 (ah (by rw [YG hb]))),tt⟩
   ·rintro k hk4;have e2:IntKind.i64.wrap ((k:Int)+1)=((k+1:Nat):Int):=by rw [bC (by omega) (by omega)];omega
    refine sq (sq (rg [] rfl ?_));refine cd rfl (fun h7=>?_) (fun h7=>?_)
    ·have hk1:((k+1:Nat):Int)<x.len:=by rw [e2]at h7;simpa using h7
     have hsl:=Kr x.buf k;refine sk (sq (bk (rgs [] rfl ?_ ?_)))
     ·rw [e2];exact au
     refine rg [] rfl ?_;refine ⟨k+1,?_,?_,?_⟩
     ·exact hk1
     ·refine em [] trivial ⟨cq,cq,cq,cq,cq,cq,cq,cq,cq,cq,tt⟩ ⟨obs rfl,obs rfl,obs rfl (hg:=q0 (ah ((rU (c:={ x with buf:=BA x.buf k}) (k:=k) ((BA x.buf k).getD (IntKind.i64.wrap ((k:Int)+1)).toNat 0) (by show k<(BA x.buf k).length;omega)).trans (by rw [e2,Int.toNat_natCast];simp only [];rw [SQ (by omega)])))),tt⟩
     ·(try simp only []);first | omega | grind
    ·have hk1:(k:Int)=x.len - 1:=by rw [e2]at h7;simp at h7;omega
     have e3:IntKind.i64.wrap (x.len - 1)=(k:Int):=by rw [bC (by omega) (by omega)];omega
     have hsl:=Kr x.buf k;refine xt (sq (rgs [] rfl ?_ ?_))
     ·rw [e3];exact au
     have hfin:(((dW { x with buf:=BA x.buf k}).put [0,(IntKind.i64.wrap (x.len - 1)).toNat] (.int 0)).put [1] (.int (IntKind.i64.wrap (x.len - 1))))=dW (D7 x).1:=by
      rw [e3,Int.toNat_natCast,rU (c:={ x with buf:=BA x.buf k}) (k:=k) 0 (by show k<(BA x.buf k).length;omega),pJ,e1];simp only [];rw [SS hb (by omega) (fun i h1 h2=>hz i (by omega) h2),← hk1,Int.toNat_natCast]
     refine rg [] rfl ?_;refine ⟨(),?_,?_⟩
     ·trivial
     ·refine em [] trivial ⟨cq,cq,cq,cq,cq,cq,cq,⟨rfl,_,rfl,ah (by rw [e1])⟩,⟨rfl,_,rfl,ah (by rw [e1])⟩,tt⟩ ⟨obs rfl,obs rfl,obs rfl (hg:=q0 (ah hfin)),tt⟩
  ·have h0:¬ 0<x.len:=by simpa using h4
   refine sg rfl ?_;refine cd rfl (fun h12=>?_) (fun h12=>?_)
   ·have ho:x.offer=1:=by simpa using h12
    have e1:D7 x=({ x with offer:=2,val:=0},x.val,true):=by rw [D7,if_neg h0,if_pos ho]
    refine sg rfl ?_;refine sg rfl ?_;refine rg [] rfl ?_;refine ⟨(),?_,?_⟩
    ·trivial
    ·refine em [] trivial ⟨cq,cq,cq,cq,cq,cq,cq,⟨rfl,_,rfl,ah (by rw [e1])⟩,⟨rfl,_,rfl,ah (by rw [e1])⟩,tt⟩ ⟨obs rfl,obs rfl,obs rfl (hg:=q0 (ah (by rw [e1];exact (congrArg (fun z=>AV.put z [5] (.int 0)) (iy x 2)).trans (jV _ 0)))),tt⟩
   ·have ho:¬ x.offer=1:=by simpa using h12
    have e1:D7 x=(x,0,false):=by rw [D7,if_neg h0,if_neg ho]
    refine rg [] rfl ?_;refine ⟨(),?_,?_⟩
    ·trivial
    ·refine em [] trivial ⟨cq,cq,cq,cq,cq,cq,cq,⟨rfl,_,rfl,ah (by rw [e1])⟩,⟨rfl,_,rfl,ah (by rw [e1])⟩,tt⟩ ⟨obs rfl,obs rfl,obs rfl (hg:=q0 (ah (by rw [e1]))),tt⟩
 ·rintro _ h_inv;refine sq (rgs [] rfl ?_ ?_)
  ·exact au
  refine sq ?_;obtain ⟨y,v,op,hy⟩:∃ y v op,D7 x=(y,v,op):=⟨_,_,_,rfl⟩;rw [hy]at hrc ⊢;have hyb:Ny y:=by
   have h1:=qy h c;rw [Pm hcl4,hx,hy]at h1;have h2:=jh h1.s c.toNat
   have h3:chI (bM { m with val:=v} c y).s c=y:=iT hcl4;rw [← h3];exact h2
  have hm1:OkM (bM m c y):=uK h c hyb;refine WP.ent (st':=aK [(1,.int m.g),(2,.int c),(3,.int r),(4,.int ok),(5,.ptr (.s 5 0) 1 0 []),(10,.ptr (.s 10 0) 1 0 []),(12,.int v),(13,.bool op)] [(.s 5 0,.cells ⟨301,1,fun _=>gB (jP (bM m c y) to),0⟩),(.s 10 0,.cells ⟨301,1,fun _=>(T 301).zero,0⟩)]) ?_ ?_
  ·refine em [] trivial ⟨cq,cq,cq,cq,cq,cq,cq,cq,tt⟩ ⟨obs rfl (hg:=q0 (ah (jd (rO hcl4 (Jd _ _))))),obs rfl,tt⟩
  refine rgs [CG.pure (encS (bJ (bM m c y) r v).s)] rfl ?_ ?_
  ·have hq:=qm (bM m c y) hm1 r v hr;exact au
  refine sq ?_;have hm2:OkM (bJ (bM m c y) r v):=mM hm1 _ _
  refine WP.ent (st':=aK [(1,.int m.g),(4,.int ok),(5,.ptr (.s 5 0) 1 0 []),(10,.ptr (.s 10 0) 1 0 []),(12,.int v),(13,.bool op)] [(.s 5 0,.cells ⟨301,1,fun _=>gB (jP (bJ (bM m c y) r v) to),0⟩),(.s 10 0,.cells ⟨301,1,fun _=>(T 301).zero,0⟩)]) ?_ ?_
  ·refine em [] trivial ⟨cq,cq,cq,cq,cq,cq,tt⟩ ⟨obs rfl (hg:=q0 (ah ((jd (aF _ _)).trans (by show gB ⟨_,m.val,0,to⟩=gB ⟨_,(bJ (bM m c y) r v).val,0,to⟩;rw [lV])))),obs rfl,tt⟩
  refine drs [CG.pure (.int (jM op)),CG.pure (encS (bJ (bJ (bM m c y) r v) ok (jM op)).s)] rfl ?_ ?_
  ·have hq1:=D8 op;have hq2:=qm (bJ (bM m c y) r v) hm2 ok (jM op) hk
   rw [yj]at hq2;exact au
  refine sg rfl ?_;refine sg rfl ?_;refine WP.ret ?_;change Fin ..;refine aO hT rfl rfl rfl rfl rfl (ah ((aF _ _).trans ?_)) rfl rfl rfl;refine (congrArg (fun z=>AV.put z [1] (.int v)) (jd (s':=(bJ (bJ (bM m c y) r v) ok (jM op)).s) (aF _ _))).trans ?_;rw [kE,hrc];simp only [];show gB ⟨_,v,0,to⟩=gB ⟨_,(bJ (bJ (bM { m with val:=v} c y) r v) ok (jM op)).val,0,to⟩
  rw [lV,lV];have e:=VN (bM m c y) v r v
  have e2:=VN (bJ (bM m c y) r v) v ok (jM op);rw [show bM { m with val:=v} c y={ bM m c y with val:=v}from rfl,e,e2]
def oM (p:ay) (m:PM) (to:Int) (x:jR):RD:=if m.s.count=6 then ⟨m.s,m.val,8,to⟩else jP (iE p m x).1 to
theorem O1 (p:ay) (m:PM) (to:Int) (F:iL) (x:jR) (h:OkM m) (hp:qV p) (hF:Dw p F) (hi:MK p F x) (e62:x.op=62) (hct:0≤m.s.count∧m.s.count≤6):AC Tryz.prog T bn 258 [aj p,gB (jP m to),.int m.g,aP x] [] (gB (oM p m to x)) []:=by
 refine aA hT Tryz.func258 rfl rfl (Nat.le_of_ble_eq_true rfl) ?_;have hr:=hF.regs
 have hs:=hi.spawn e62;have hfl:=hp.funcs
 simp only [lq,bQ]at hs;have hgf:p.funcs.getD x.b.toNat mD∈p.funcs:=by rw [List.getD_eq_getElem?_getD,List.getElem?_eq_getElem (show x.b.toNat<p.funcs.length by omega)];exact List.getElem_mem _
 have hpr:=(hp.fn _ hgf).pars;have hpr8:=(hp.fn _ hgf).regs
 have hpc:(wZ p x=0∧x.c=0)∨0<wZ p x∧0≤x.c∧x.c+wZ p x≤F.regs:=by
  have h1:=hs.2.2 _ rfl;rcases h1 with h1 | h1
  ·exact .inl h1
  ·refine .inr ⟨h1.1,h1.2.1,?_⟩;have h2:=h1.2.2
   rw [bC (by omega) (by omega)]at h2;show x.c+(p.funcs.getD x.b.toNat mD).params≤F.regs
   omega
 have hp8:0≤wZ p x∧wZ p x≤8:=by show 0≤(p.funcs.getD x.b.toNat mD).params∧(p.funcs.getD x.b.toNat mD).params≤8;omega
 have hg6:=h.s.gos;have hgg:=h.g
 have hr8:(aQ m).regs.length=8:=fJ h.s _;refine sg rfl ?_;refine sq (sq ?_);refine WP.ent (st':=aK [(4,.rp 26 (aj p)),(7,.rp 120 (aP x)),(2,.int m.g),(5,.ptr (.s 5 0) 1 0 []),(8,.ptr (.s 8 0) 1 0 [])] [(.s 5 0,.cells ⟨301,1,fun _=>gB (jP m to),0⟩),(.s 8 0,.cells ⟨301,1,fun _=>(T 301).zero,0⟩)]) (em [(.s 4 0,1),(.s 7 0,1)] ⟨sF,sF,tt⟩ ⟨rq,rq,cq,cq,cq,tt⟩ ⟨obs rfl,obs rfl,tt⟩) ?_;refine rg [] rfl ?_;refine cd rfl (fun h1=>?_) (fun h1=>?_)
 ·have hz:m.s.count=6:=by simp at h1;omega
  refine sg rfl ?_;refine sg rfl ?_;refine WP.ret ?_;change Fin ..;refine aO hT rfl rfl rfl rfl rfl (ah ((aF _ _).trans ?_)) rfl rfl rfl;rw [oM,if_pos hz];exact tJ (jP m to) 8
 ·have hz:¬ m.s.count=6:=by simp at h1;omega
  refine sk (sq (rg [] rfl ?_));refine sq (rgs [] rfl ?_ ?_)
  ·exact au
  refine sg rfl ?_;refine sq (sq (rg [] rfl ?_));refine bk ?_;refine WP.loop (α:=Nat) (fun k=>aK [(2,.int m.g),(4,.rp 26 (aj p)),(5,.ptr (.s 5 0) 1 0 []),(7,.rp 120 (aP x)),(8,.ptr (.s 8 0) 1 0 []),(9,.int m.s.count),(10,.rp 100 (dI (p.funcs.getD x.b.toNat mD))),(11,.ptr (.s 11 0) 1 0 []),(12,.int k)] [(.s 5 0,.cells ⟨301,1,fun _=>gB (jP m to),0⟩),(.s 8 0,.cells ⟨301,1,fun _=>(T 301).zero,0⟩),(.s 11 0,.cells ⟨59,1,fun _=>bP (pW (aQ m) x k),0⟩)]) (fun k=>(k:Int)≤wZ p x) (fun k=>8 - k) ?_ ?_
  ·refine ⟨0,?_,?_⟩
   ·exact hp8.1
   ·refine em [(.s 10 0,1)] ⟨sF,tt⟩ ⟨cq,cq,cq,cq,cq,cq,⟨rfl,_,rfl,aZ rfl rfl (by decide) rfl (aF _ _) rfl⟩,cq,cq,tt⟩ ⟨obs rfl,obs rfl,obs rfl (hg:=q0 (ah ((aF _ _).trans (V9 _ _)))),tt⟩
  ·rintro k hk;refine sq (sq (rg [] rfl ?_));refine cd rfl (fun h8=>?_) (fun h8=>?_)
   ·have hkl:(k:Int)<wZ p x:=of_decide_eq_true h8;have hw:IntKind.i64.wrap (x.c+(k:Int))=x.c+k:=bC (by omega) (by omega)
    refine sk (sq (bk (drs [] rfl ?_ ?_)))
    ·rw [hw];exact au
    refine rg [] rfl ?_;refine ⟨k+1,?_,?_,?_⟩
    ·omega
    ·refine em [] trivial ⟨cq,cq,cq,cq,cq,cq,cq,cq,cq,tt⟩ ⟨obs rfl,obs rfl,obs rfl (hg:=q0 (ah ((congrArg (fun z:Int=>(bP (pW (aQ m) x k)).put [4,(k:Int).toNat] (.int (bZ (aQ m) z))) hw).trans ((jc _ (by show (k:Int).toNat<(EY _ _ _).length;rw [Eb];omega)).trans (by simp only [Int.toNat_natCast,pW];rw [KQ (by omega)]))))),tt⟩
    ·(try simp only []);first | omega | grind
   ·have hkl:¬ (k:Int)<wZ p x:=of_decide_eq_false h8;have ek:k=(wZ p x).toNat:=by omega
    subst ek;refine xt (sq (rgs [] rfl ?_ ?_))
    ·exact au
    refine sg rfl ?_;refine sq ?_;have hw2:IntKind.i64.wrap (m.s.count+1)=m.s.count+1:=bC (by omega) (by omega)
    have hcl:m.s.count.toNat<m.s.gos.length:=by omega
    have hsp:((gB (jP m to)).put [0,3,m.s.count.toNat] (bP (pW (aQ m) x (wZ p x).toNat))).put [0,4] (.int (IntKind.i64.wrap (m.s.count+1)))=gB ⟨(iW p m x).s,m.val,0,to⟩:=by
     rw [hw2,jd (lu hcl (TP _ _)),jd (tH _ _)];rfl
    refine WP.ent (st':=aK [(2,.int m.g),(5,.ptr (.s 5 0) 1 0 []),(7,.rp 120 (aP x)),(8,.ptr (.s 8 0) 1 0 []),(9,.int m.s.count)] [(.s 5 0,.cells ⟨301,1,fun _=>gB ⟨(iW p m x).s,m.val,0,to⟩,0⟩),(.s 8 0,.cells ⟨301,1,fun _=>(T 301).zero,0⟩)]) ?_ ?_
    ·refine em [] trivial ⟨cq,cq,cq,cq,cq,tt⟩ ⟨obs rfl (hg:=q0 (ah hsp)),obs rfl,tt⟩
    refine rgs [CG.pure (encS (bJ (iW p m x) x.a m.s.count).s)] rfl ?_ ?_
    ·have hq:=qm (iW p m x) (xq h x) x.a m.s.count (by omega);exact au
    refine sg rfl ?_;refine sg rfl ?_;refine WP.ret ?_;change Fin ..;refine aO hT rfl rfl rfl rfl rfl (ah ((aF _ _).trans ?_)) rfl rfl rfl;refine (congrArg (fun z=>AV.put z [1] (.int m.s.count)) (jd (s':=(bJ (iW p m x) x.a m.s.count).s) (aF _ _))).trans ?_;rw [kE,oM,if_neg hz,iE,if_neg hz];show gB ⟨_,m.s.count,0,to⟩=gB ⟨_,(bJ (iW p m x) x.a m.s.count).val,0,to⟩
    rw [lV];rfl
def zJ (m:PM) (to:Int) (x:jR):RD:=if x.op=56∧qO m.s x.a≠m.g+1 then ⟨m.s,m.val,6,to⟩else jP (aX m x).1 to
theorem oL {m:PM} {to:Int} {x:jR} (h:x.op≠56):zJ m to x=jP (aX m x).1 to:=if_neg (fun e=>h e.1)
theorem pI (d:RD) (s':PSt):(gB d).put [0] (encS s')=gB { d with s:=s'}:=jd (aF _ _)
theorem Tc (p:ay) (m:PM) (to:Int) (F:iL) (x:jR) (h:OkM m) (hp:qV p) (hF:Dw p F) (hi:MK p F x):AC Tryz.prog T bn 259 [gB (jP m to),.int m.g,aP x] [] (gB (zJ m to x)) []:=by
 refine aA hT Tryz.func259 rfl rfl (Nat.le_of_ble_eq_true rfl) ?_;have hr:=hF.regs;have hv:=hp.vars;have hlk:=hp.locks
 have hg:=h.g;have h8:(aQ m).regs.length=8:=fJ h.s _
 have hw1:IntKind.i64.wrap (m.g+1)=m.g+1:=bC (by omega) (by omega);have hv8:=h.s.vars;have ho4:=h.s.owner
 refine sg rfl ?_;refine sq ?_;refine WP.ent (st':=aK [(5,.rp 120 (aP x)),(1,.int m.g),(3,.ptr (.s 3 0) 1 0 []),(6,.ptr (.s 6 0) 1 0 [])] [(.s 3 0,.cells ⟨301,1,fun _=>gB (jP m to),0⟩),(.s 6 0,.cells ⟨301,1,fun _=>(T 301).zero,0⟩)]) (em [(.s 5 0,1)] ⟨sF,tt⟩ ⟨rq,cq,cq,cq,tt⟩ ⟨obs rfl,obs rfl,tt⟩) ?_;refine rgs [] rfl ?_ ?_
 ·exact au
 refine sq (sq ?_);refine WP.ent (st':=aK [(1,.int m.g),(3,.ptr (.s 3 0) 1 0 []),(5,.rp 120 (aP x)),(6,.ptr (.s 6 0) 1 0 []),(7,.rp 52 (o7 52 8 .i64 (aQ m).regs))] [(.s 3 0,.cells ⟨301,1,fun _=>gB (jP m to),0⟩),(.s 6 0,.cells ⟨301,1,fun _=>(T 301).zero,0⟩)]) ?_ ?_
 ·refine em [(.s 7 0,1)] ⟨sF,tt⟩ ⟨cq,cq,cq,cq,⟨rfl,_,rfl,aZ rfl rfl (by decide) rfl (aF _ _) rfl⟩,tt⟩ ⟨obs rfl,obs rfl,tt⟩
 refine rg [] rfl ?_;refine bk (sq (rg [] rfl ?_));refine cd rfl (fun h3=>?_) (fun h3=>?_)
 ·have e:x.op=50:=by simpa using h3
  have hx:=hi.load e;simp only [lq,bQ]at hx;refine sq (rgs [] rfl ?_ ?_)
  ·exact au
  refine WP.ent (st':=aK [(1,.int m.g),(3,.ptr (.s 3 0) 1 0 []),(5,.rp 120 (aP x)),(6,.ptr (.s 6 0) 1 0 [])] [(.s 3 0,.cells ⟨301,1,fun _=>gB (jP (cO m (lT m.s x.b)) to),0⟩),(.s 6 0,.cells ⟨301,1,fun _=>(T 301).zero,0⟩)]) ?_ ?_
  ·refine em [] trivial ⟨cq,cq,cq,cq,tt⟩ ⟨obs rfl (hg:=q0 (ah (kE _ _))),obs rfl,tt⟩
  refine rgs [CG.pure (encS (bJ (cO m (lT m.s x.b)) x.a (lT m.s x.b)).s)] rfl ?_ ?_
  ·have hq:=qm (cO m (lT m.s x.b)) (fE h _) x.a (lT m.s x.b) (by omega);exact au
  refine sg rfl ?_;refine WP.ret ?_;change Fin ..;refine aO hT rfl rfl rfl rfl rfl (ah ((aF _ _).trans ?_)) rfl rfl rfl;rw [oL (by omega),aX,if_pos e];refine (pI _ _).trans ?_;show gB ⟨_,lT m.s x.b,0,to⟩=gB ⟨_,(bJ (cO m (lT m.s x.b)) x.a (lT m.s x.b)).val,0,to⟩
  rw [lV]
 ·have e50:x.op≠50:=by simpa using h3
  refine sg rfl ?_;refine cd rfl (fun h6=>?_) (fun h6=>?_)
  ·have e:x.op=51:=by simpa using h6
   have hx:=hi.store (.inl e);simp only [lq,bQ]at hx;refine sq (rgs [] rfl ?_ ?_)
   ·exact au
   refine rgs [] rfl ?_ ?_
   ·exact au
   refine sg rfl ?_;refine WP.ret ?_;change Fin ..;refine aO hT rfl rfl rfl rfl rfl (ah ((aF _ _).trans ?_)) rfl rfl rfl;rw [oL (by omega),aX,if_neg e50,if_pos e];show ((gB (jP m to)).put [1] (.int (bZ (aQ m) x.b))).put [0,0,x.a.toNat] (.int (bZ (aQ m) x.b))=_
   rw [kE,jd (tC _ (by show _<m.s.vars.length;omega))]
  ·have e51:x.op≠51:=by simpa using h6
   refine sg rfl ?_;refine cd rfl (fun h9=>?_) (fun h9=>?_)
   ·have e:x.op=52:=by simpa using h9
    have hx:=hi.bump e;simp only [lq,bQ]at hx;refine sq (rgs [] rfl ?_ ?_)
    ·exact au
    refine sq ?_;refine WP.ent (st':=aK [(1,.int m.g),(3,.ptr (.s 3 0) 1 0 []),(5,.rp 120 (aP x)),(6,.ptr (.s 6 0) 1 0 [])] [(.s 3 0,.cells ⟨301,1,fun _=>gB (jP (cO m (bZ (aQ m) x.c)) to),0⟩),(.s 6 0,.cells ⟨301,1,fun _=>(T 301).zero,0⟩)]) ?_ ?_
    ·refine em [] trivial ⟨cq,cq,cq,cq,tt⟩ ⟨obs rfl (hg:=q0 (ah (kE _ _))),obs rfl,tt⟩
    refine drs [CG.pure (encS (uz m x).s)] rfl ?_ ?_
    ·have hq:=qm (cO m (bZ (aQ m) x.c)) (fE h _) x.a (lT m.s x.b) (by omega);exact au
    have hbv:(uz m x).val=bZ (aQ m) x.c:=lV _ _ _;have hb8:(uz m x).s.vars.length=8:=(Ej h x).s.vars
    refine WP.ent (st':=aK [(1,.int m.g),(3,.ptr (.s 3 0) 1 0 []),(5,.rp 120 (aP x)),(6,.ptr (.s 6 0) 1 0 [])] [(.s 3 0,.cells ⟨301,1,fun _=>gB (jP (uz m x) to),0⟩),(.s 6 0,.cells ⟨301,1,fun _=>(T 301).zero,0⟩)]) ?_ ?_
    ·refine em [] trivial ⟨cq,cq,cq,cq,tt⟩ ⟨obs rfl (hg:=q0 (ah ((pI _ _).trans (by show gB ⟨_,bZ (aQ m) x.c,0,to⟩=gB ⟨_,(uz m x).val,0,to⟩;rw [hbv])))),obs rfl,tt⟩
    refine drs [] rfl ?_ ?_
    ·exact au
    refine sg rfl ?_;refine WP.ret ?_;change Fin ..;refine aO hT rfl rfl rfl rfl rfl (ah ((aF _ _).trans ?_)) rfl rfl rfl;rw [oL (by omega),aX,if_neg e50,if_neg e51,if_pos e];exact jd (tC _ (by show _<(uz m x).s.vars.length;omega))
   ·have e52:x.op≠52:=by simpa using h9
    refine sg rfl ?_;refine cd rfl (fun h13=>?_) (fun h13=>?_)
    ·have e:x.op=53:=by simpa using h13
     have hx:=hi.cas e;simp only [lq,bQ]at hx;refine sq (drs [CG.pure (.int (jM (lT m.s x.b==bZ (aQ m) x.c)))] rfl ?_ ?_)
     ·have hq:=D8 (lT m.s x.b==bZ (aQ m) x.c);exact au
     refine sq (sq ?_);obtain ⟨v,hvv⟩:∃ v,jM (lT m.s x.b==bZ (aQ m) x.c)=v:=⟨_,rfl⟩;refine WP.ent (st':=aK [(1,.int m.g),(3,.ptr (.s 3 0) 1 0 []),(5,.rp 120 (aP x)),(6,.ptr (.s 6 0) 1 0 []),(7,.rp 52 (o7 52 8 .i64 (aQ m).regs))] [(.s 3 0,.cells ⟨301,1,fun _=>gB (jP (cO m v) to),0⟩),(.s 6 0,.cells ⟨301,1,fun _=>(T 301).zero,0⟩)]) ?_ ?_
     ·refine em [] trivial ⟨cq,cq,cq,cq,cq,tt⟩ ⟨obs rfl (hg:=q0 (ah ((congrArg (fun z=>(gB (jP m to)).put [1] (.int z)) hvv).trans (kE _ _)))),obs rfl,tt⟩
     refine rg [] rfl ?_;refine cd rfl (fun h15=>?_) (fun h15=>?_)
     ·have h1:v=1:=by simpa using h15
      have hcm:mF m x=setVar (cO m v) x.b (bZ (aQ m) x.n):=by rw [mF,hvv,if_pos h1]
      refine drs [] rfl ?_ ?_
      ·exact au
      have hcv:(mF m x).val=v:=by rw [hcm]
      refine WP.ent (st':=aK [(1,.int m.g),(3,.ptr (.s 3 0) 1 0 []),(5,.rp 120 (aP x)),(6,.ptr (.s 6 0) 1 0 [])] [(.s 3 0,.cells ⟨301,1,fun _=>gB (jP (mF m x) to),0⟩),(.s 6 0,.cells ⟨301,1,fun _=>(T 301).zero,0⟩)]) ?_ ?_
      ·refine em [] trivial ⟨cq,cq,cq,cq,tt⟩ ⟨obs rfl (hg:=q0 (ah (by rw [hcm];exact jd (tC _ (by show _<m.s.vars.length;omega))))),obs rfl,tt⟩
      refine rgs [CG.pure (encS (bJ (mF m x) x.a (mF m x).val).s)] rfl ?_ ?_
      ·have hq:=qm (mF m x) (Af h x) x.a (mF m x).val (by omega);have hcg:(mF m x).g=m.g:=by rw [hcm]
       rw [hcg]at hq;exact au
      refine sg rfl ?_;refine WP.ret ?_;change Fin ..;refine aO hT rfl rfl rfl rfl rfl (ah ((aF _ _).trans ?_)) rfl rfl rfl;rw [oL (by omega),aX,if_neg e50,if_neg e51,if_neg e52,if_pos e,hvv.trans hcv.symm];refine (pI _ _).trans ?_;show gB ⟨_,(mF m x).val,0,to⟩=gB ⟨_,(bJ (mF m x) x.a (mF m x).val).val,0,to⟩
      rw [lV]
     ·have h1:¬ v=1:=by simpa using h15
      have hcm:mF m x=cO m v:=by rw [mF,hvv,if_neg h1]
      have hcv:(mF m x).val=v:=by rw [hcm]
      refine sk ?_;refine WP.ent (st':=aK [(1,.int m.g),(3,.ptr (.s 3 0) 1 0 []),(5,.rp 120 (aP x)),(6,.ptr (.s 6 0) 1 0 [])] [(.s 3 0,.cells ⟨301,1,fun _=>gB (jP (mF m x) to),0⟩),(.s 6 0,.cells ⟨301,1,fun _=>(T 301).zero,0⟩)]) ?_ ?_
      ·refine em [] trivial ⟨cq,cq,cq,cq,tt⟩ ⟨obs rfl (hg:=q0 (ah (by rw [hcm]))),obs rfl,tt⟩
      refine rgs [CG.pure (encS (bJ (mF m x) x.a (mF m x).val).s)] rfl ?_ ?_
      ·have hq:=qm (mF m x) (Af h x) x.a (mF m x).val (by omega);have hcg:(mF m x).g=m.g:=by rw [hcm]
       rw [hcg]at hq;exact au
      refine sg rfl ?_;refine WP.ret ?_;change Fin ..;refine aO hT rfl rfl rfl rfl rfl (ah ((aF _ _).trans ?_)) rfl rfl rfl;rw [oL (by omega),aX,if_neg e50,if_neg e51,if_neg e52,if_pos e,hvv.trans hcv.symm];refine (pI _ _).trans ?_;show gB ⟨_,(mF m x).val,0,to⟩=gB ⟨_,(bJ (mF m x) x.a (mF m x).val).val,0,to⟩
      rw [lV]
    ·have e53:x.op≠53:=by simpa using h13
     refine sg rfl ?_;refine cd rfl (fun h18=>?_) (fun h18=>?_)
     ·have e:x.op=54:=by simpa using h18
      have hx:=hi.store (.inr e);simp only [lq,bQ]at hx;refine rgs [] rfl ?_ ?_
      ·exact au
      refine sg rfl ?_;refine WP.ret ?_;change Fin ..;refine aO hT rfl rfl rfl rfl rfl (ah ((aF _ _).trans ?_)) rfl rfl rfl;rw [oL (by omega),aX,if_neg e50,if_neg e51,if_neg e52,if_neg e53,if_pos e];exact kE _ _
     ·have e54:x.op≠54:=by simpa using h18
      refine sg rfl ?_;refine cd rfl (fun h20=>?_) (fun h20=>?_)
      ·have e:x.op=55:=by simpa using h20
       have hx:=hi.lock (.inl e);refine rgs [] rfl ?_ ?_
       ·exact au
       refine sg rfl ?_;refine WP.ret ?_;change Fin ..;refine aO hT rfl rfl rfl rfl rfl (ah ((aF _ _).trans ?_)) rfl rfl rfl;rw [oL (by omega),aX,if_neg e50,if_neg e51,if_neg e52,if_neg e53,if_neg e54,if_pos e];show (gB (jP m to)).put [0,1,x.a.toNat] (.int (IntKind.i64.wrap (m.g+1)))=_
       rw [hw1];exact jd (yU _ (by show _<m.s.owner.length;omega))
      ·have e55:x.op≠55:=by simpa using h20
       refine sg rfl ?_;refine cd rfl (fun h22=>?_) (fun h22=>?_)
       ·have e:x.op=56:=by simpa using h22
        have hx:=hi.lock (.inr e);refine sq (sq (rgs [] rfl ?_ ?_))
        ·exact au
        refine cd rfl (fun h23=>?_) (fun h23=>?_)
        ·have hl:qO m.s x.a≠m.g+1:=by rw [hw1]at h23;simp [-List.getD_eq_getElem?_getD]at h23;exact h23
         refine sg rfl ?_;refine sg rfl ?_;refine WP.ret ?_;change Fin ..;refine aO hT rfl rfl rfl rfl rfl (ah ((aF _ _).trans ?_)) rfl rfl rfl;rw [zJ,if_pos ⟨e,hl⟩];exact tJ (jP m to) 6
        ·have hl:¬ qO m.s x.a≠m.g+1:=by rw [hw1]at h23;simp [-List.getD_eq_getElem?_getD]at h23;exact fun hh=>hh h23
         refine sk (rgs [] rfl ?_ ?_)
         ·exact au
         refine sg rfl ?_;refine WP.ret ?_;change Fin ..;refine aO hT rfl rfl rfl rfl rfl (ah ((aF _ _).trans ?_)) rfl rfl rfl;rw [zJ,if_neg (fun hh=>hl hh.2),aX,if_neg e50,if_neg e51,if_neg e52,if_neg e53,if_neg e54,if_neg e55,if_pos e,if_neg hl];exact jd (yU _ (by show _<m.s.owner.length;omega))
       ·have e56:x.op≠56:=by simpa using h22
        refine sg rfl ?_;refine cd rfl (fun h27=>?_) (fun h27=>?_)
        ·have e:x.op=57:=by simpa using h27
         have hx:=hi.try_ e;simp only [lq,bQ]at hx;refine sq (rgs [CG.pure (.int (jM (qO m.s x.b==0)))] rfl ?_ ?_)
         ·have hq:=D8 (qO m.s x.b==0);exact au
         refine sq (sq ?_);obtain ⟨v,hvv⟩:∃ v,jM (qO m.s x.b==0)=v:=⟨_,rfl⟩;refine WP.ent (st':=aK [(1,.int m.g),(3,.ptr (.s 3 0) 1 0 []),(5,.rp 120 (aP x)),(6,.ptr (.s 6 0) 1 0 [])] [(.s 3 0,.cells ⟨301,1,fun _=>gB (jP (cO m v) to),0⟩),(.s 6 0,.cells ⟨301,1,fun _=>(T 301).zero,0⟩)]) ?_ ?_
         ·refine em [] trivial ⟨cq,cq,cq,cq,tt⟩ ⟨obs rfl (hg:=q0 (ah ((congrArg (fun z=>(gB (jP m to)).put [1] (.int z)) hvv).trans (kE _ _)))),obs rfl,tt⟩
         refine rg [] rfl ?_;refine cd rfl (fun h29=>?_) (fun h29=>?_)
         ·have h1:v=1:=by simpa using h29
          have hcm:mg m x=uD (cO m v) x.b (m.g+1):=by rw [mg,hvv,if_pos h1]
          have hcv:(mg m x).val=v:=by rw [hcm]
          refine rgs [] rfl ?_ ?_
          ·exact au
          refine WP.ent (st':=aK [(1,.int m.g),(3,.ptr (.s 3 0) 1 0 []),(5,.rp 120 (aP x)),(6,.ptr (.s 6 0) 1 0 [])] [(.s 3 0,.cells ⟨301,1,fun _=>gB (jP (mg m x) to),0⟩),(.s 6 0,.cells ⟨301,1,fun _=>(T 301).zero,0⟩)]) ?_ ?_
          ·refine em [] trivial ⟨cq,cq,cq,cq,tt⟩ ⟨obs rfl (hg:=q0 (ah (by rw [hcm,hw1];exact jd (yU _ (by show _<m.s.owner.length;omega))))),obs rfl,tt⟩
          refine rgs [CG.pure (encS (bJ (mg m x) x.a (mg m x).val).s)] rfl ?_ ?_
          ·have hq:=qm (mg m x) (Ae h x) x.a (mg m x).val (by omega);have hcg:(mg m x).g=m.g:=by rw [hcm]
           rw [hcg]at hq;exact au
          refine sg rfl ?_;refine WP.ret ?_;change Fin ..;refine aO hT rfl rfl rfl rfl rfl (ah ((aF _ _).trans ?_)) rfl rfl rfl;rw [oL (by omega),aX,if_neg e50,if_neg e51,if_neg e52,if_neg e53,if_neg e54,if_neg e55,if_neg e56,if_pos e,hvv.trans hcv.symm];refine (pI _ _).trans ?_;show gB ⟨_,(mg m x).val,0,to⟩=gB ⟨_,(bJ (mg m x) x.a (mg m x).val).val,0,to⟩
          rw [lV]
         ·have h1:¬ v=1:=by simpa using h29
          have hcm:mg m x=cO m v:=by rw [mg,hvv,if_neg h1]
          have hcv:(mg m x).val=v:=by rw [hcm]
          refine sk ?_;refine WP.ent (st':=aK [(1,.int m.g),(3,.ptr (.s 3 0) 1 0 []),(5,.rp 120 (aP x)),(6,.ptr (.s 6 0) 1 0 [])] [(.s 3 0,.cells ⟨301,1,fun _=>gB (jP (mg m x) to),0⟩),(.s 6 0,.cells ⟨301,1,fun _=>(T 301).zero,0⟩)]) ?_ ?_
          ·refine em [] trivial ⟨cq,cq,cq,cq,tt⟩ ⟨obs rfl (hg:=q0 (ah (by rw [hcm]))),obs rfl,tt⟩
          refine rgs [CG.pure (encS (bJ (mg m x) x.a (mg m x).val).s)] rfl ?_ ?_
          ·have hq:=qm (mg m x) (Ae h x) x.a (mg m x).val (by omega);have hcg:(mg m x).g=m.g:=by rw [hcm]
           rw [hcg]at hq;exact au
          refine sg rfl ?_;refine WP.ret ?_;change Fin ..;refine aO hT rfl rfl rfl rfl rfl (ah ((aF _ _).trans ?_)) rfl rfl rfl;rw [oL (by omega),aX,if_neg e50,if_neg e51,if_neg e52,if_neg e53,if_neg e54,if_neg e55,if_neg e56,if_pos e,hvv.trans hcv.symm];refine (pI _ _).trans ?_;show gB ⟨_,(mg m x).val,0,to⟩=gB ⟨_,(bJ (mg m x) x.a (mg m x).val).val,0,to⟩
          rw [lV]
        ·have e57:x.op≠57:=by simpa using h27
         refine sk (sq (rg [] rfl ?_));refine WP.ret ?_;change Fin ..;refine aO hT rfl rfl rfl rfl rfl (ah ((aF _ _).trans ?_)) rfl rfl rfl;rw [oL (by omega),aX,if_neg e50,if_neg e51,if_neg e52,if_neg e53,if_neg e54,if_neg e55,if_neg e56,if_neg e57];rfl
def x9 (m:PM) (to:Int) (k:Int):RD:=if iV m.s m.g k=true then ⟨m.s,k,0,to⟩else ⟨m.s,m.val,7,to⟩
def DX (p:ay) (m:PM) (q:yP) (alt:Int):RD :=
 if alt=q.cases.length then ⟨m.s,m.val,0,q.els⟩else
 if (aC q alt.toNat).send=true then mQ p m (aC q alt.toNat).to (aC q alt.toNat).chan (bZ (aQ m) (aC q alt.toNat).reg)else rG m (aC q alt.toNat).to (aC q alt.toNat).chan (aC q alt.toNat).reg (-1)
def nY (p:ay) (m:PM) (x:jR) (q:yP) (alt:Int):RD :=
 if x.op=66 then uZ m ((aQ m).pc+1) x.a else if x.op=58 then mQ p m ((aQ m).pc+1) x.a (bZ (aQ m) x.b)else
 if x.op=59 then rG m ((aQ m).pc+1) x.b x.a x.c else if x.op=60 then uG m ((aQ m).pc+1) x.a else
 if x.op=62 then oM p m ((aQ m).pc+1) x else if x.op=63 then x9 m ((aQ m).pc+1) (bZ (aQ m) x.a)else
 if x.op=65 then ⟨m.s,bZ (aQ m) x.a,0,(aQ m).pc+1⟩else if x.op=61 then DX p m q alt else zJ m ((aQ m).pc+1) x
theorem Oc {p:ay} {s:PSt} (hv:dw p s) {c:Int} (hc:0≤c∧c<4):∀ i:Nat,(chI s c).len≤i→i<4→(chI s c).buf.getD i 0=0:=fun i h1 h2=>by
 have h3:=hv.2.2.2.2.2.1 c.toNat (by omega);by_cases h4:c.toNat<p.chans.length
 ·exact (h3.1 h4).2.1 i h2 h1
 ·have h5:chI s c=ch0:=h3.2 (by omega);rw [h5]
  match i,h2 with
  | 0,_ | 1,_ | 2,_ | 3,_=>rfl
theorem WL (p:ay) (s:PSt) (g n alt:Int) (h:dR p s g) (ha:alt∈kU p s g):AC Tryz.prog T bn 209 [aj p,encS s,.int g,.int alt] [] (gB (nY p (jE s g n) (atI p s g) (dK p s g) alt)) []:=by
 refine aA hT Tryz.func209 rfl rfl (Nat.le_of_ble_eq_true rfl) ?_;have hp:=h.prog
 have hF:=h.fn;have hat:=h.at
 have hr:=hF.regs;have hc4:=hp.chans
 have hi:(atI p s g).op≠66→MK p (dN p (goI s g)) (atI p s g):=fun e=>by rw [hat.ins e];exact h.ins
 have hok:OkM (jE s g n):=⟨h.ok,h.pos⟩;have hlens:=Qe h.valid
 have hpc:=h.fit.2.2.1;have hcl:=hF.code
 have hg:=h.pos;have hct:=h.valid.2.1
 unfold bQ at hpc;have hw:IntKind.i64.wrap ((goI s g).pc+1)=(goI s g).pc+1:=bC (by omega) (by omega)
 have hab:(insOf p (goI s g)).a=(atI p s g).a∧(insOf p (goI s g)).b=(atI p s g).b∧(insOf p (goI s g)).c=(atI p s g).c:=by unfold atI;split <;> exact ⟨rfl,rfl,rfl⟩
 obtain ⟨m,hm⟩:∃ m,jE s g n=m:=⟨_,rfl⟩;have hms:m.s=s:=by rw [← hm];rfl
 have hmg:m.g=g:=by rw [← hm];rfl
 have hmv:m.val=0:=by rw [← hm];rfl
 rw [hm]at hok ⊢;subst hms hmg;have h8:(aQ m).regs.length=8:=fJ hok.s _
 have hb2:=h.fit.2.1;refine sg rfl ?_;refine sq ?_;refine WP.ent (st':=aK [(4,.rp 26 (aj p)),(5,.rp 62 (encS m.s)),(2,.int m.g),(3,.int alt),(8,.ptr (.s 8 0) 1 0 [])] [(.s 8 0,.cells ⟨301,1,fun _=>(T 301).zero,0⟩)]) (em [(.s 4 0,1),(.s 5 0,1)] ⟨sF,sF,tt⟩ ⟨rq,rq,cq,cq,cq,tt⟩ ⟨obs rfl,tt⟩) ?_;refine rgs [CG.pure (aP (insOf p (goI m.s m.g)))] rfl ?_ ?_
 ·have hq:=tu p m.s m.g h;exact au
 refine sq (drs [] rfl ?_ ?_)
 ·exact au
 refine sq (rgs [] rfl ?_ ?_)
 ·exact au
 refine sq (sq ?_);refine WP.ent (st':=aK [(2,.int m.g),(3,.int alt),(4,.rp 26 (aj p)),(5,.rp 62 (encS m.s)),(8,.ptr (.s 8 0) 1 0 []),(9,.rp 120 (aP (insOf p (goI m.s m.g)))),(10,.ptr (.s 10 0) 1 0 []),(11,.rp 52 (o7 52 8 .i64 (aQ m).regs))] [(.s 8 0,.cells ⟨301,1,fun _=>(T 301).zero,0⟩),(.s 10 0,.cells ⟨301,1,fun _=>gB (jP m ((aQ m).pc+1)),0⟩)]) ?_ ?_
 ·refine em [(.s 9 0,1),(.s 11 0,1)] ⟨sF,sF,tt⟩ ⟨cq,cq,cq,cq,cq,⟨rfl,_,rfl,aZ rfl rfl (by decide) rfl (aF _ _) rfl⟩,cq,⟨rfl,_,rfl,aZ rfl rfl (by decide) rfl (aF _ _) rfl⟩,tt⟩ ⟨obs rfl,obs rfl (hg:=q0 (ah ((aF _ _).trans (bg fun q=>by match q with | 0=>rfl | 1=>(show AV.int 0=AV.int m.val;rw [hmv]) | 2=>rfl | 3=>exact congrArg AV.int hw | q+4=>rfl)))),tt⟩
 refine rgs [CG.pure (.int (atI p m.s m.g).op)] rfl ?_ ?_
 ·have hq:=CB p m.s m.g h;exact au
 refine bk (sq ?_);obtain ⟨x,hx⟩:∃ x,atI p m.s m.g=x:=⟨_,rfl⟩;obtain ⟨q,hq0⟩:∃ q,dK p m.s m.g=q:=⟨_,rfl⟩;have hrd:=wK ha
 have hcs:=zk ha;have hsl:=h.sel
 rw [hx]at hi hab hrd hcs hsl ⊢;rw [hq0]at hcs hsl ⊢;have hins:x.op≠66→insOf p (goI m.s m.g)=x:=fun e=>by rw [← hx];exact (hat.ins (by rw [hx];exact e)).symm
 have hread:gY p m.s m.g=true→gY p m.s m.g=true:=id;refine rg [] rfl ?_;refine cd rfl (fun h5=>?_) (fun h5=>?_)
 ·have e:x.op=66:=by simpa using h5
  have hb:=hat.send (.inr (.inr (by rw [hx];exact e)));rw [hx]at hb;unfold bQ at hb;refine sq (rgs [CG.pure (gB (uZ m ((aQ m).pc+1) x.a))] rfl ?_ ?_)
  ·have hq:=OZ m ((aQ m).pc+1) x.a hok (by omega);rw [← hab.1]at hq ⊢;exact au
  refine WP.ret ?_;change Fin ..;refine aO hT rfl rfl rfl rfl rfl (ah ((aF _ _).trans ?_)) rfl rfl rfl;rw [nY,if_pos e];rfl
 ·have n66:x.op≠66:=by simpa using h5
  have hin:=hins n66;rw [hin];have hix:=hi n66
  refine sg rfl ?_;refine cd rfl (fun h7=>?_) (fun h7=>?_)
  ·have e:x.op=58:=by simpa using h7
   have hb:=hix.send e;have hsd:jl p m.s x.a=true:=by
    have h1:=(hrd (by omega)).1;unfold gY at h1;rw [hx,if_neg (by omega),if_neg (by omega),if_pos e]at h1;exact h1
   have hlx:=hlens x.a (by have:=hb.1;unfold bQ at this;omega);refine sq (drs [CG.pure (gB (mQ p m ((aQ m).pc+1) x.a (bZ (aQ m) x.b)))] rfl ?_ ?_)
   ·have hq:=KA p m ((aQ m).pc+1) x.a (bZ (aQ m) x.b) hok hb.1 hp hsd hlx.1;simp only [lq,bQ]at hb;exact au
   refine WP.ret ?_;change Fin ..;refine aO hT rfl rfl rfl rfl rfl (ah ((aF _ _).trans ?_)) rfl rfl rfl;rw [nY,if_neg n66,if_pos e];rfl
  ·have n58:x.op≠58:=by simpa using h7
   refine sg rfl ?_;refine cd rfl (fun h9=>?_) (fun h9=>?_)
   ·have e:x.op=59:=by simpa using h9
    have hb:=hix.recv e;simp only [lq,bQ]at hb;refine sq (rgs [CG.pure (gB (rG m ((aQ m).pc+1) x.b x.a x.c))] rfl ?_ ?_)
    ·have hq:=KC m ((aQ m).pc+1) x.b x.a x.c hok (by omega) (hlens x.b (by omega)) (Oc h.valid (by omega)) (by omega) (by omega);exact au
    refine WP.ret ?_;change Fin ..;refine aO hT rfl rfl rfl rfl rfl (ah ((aF _ _).trans ?_)) rfl rfl rfl;rw [nY,if_neg n66,if_neg n58,if_pos e];rfl
   ·have n59:x.op≠59:=by simpa using h9
    refine sg rfl ?_;refine cd rfl (fun h11=>?_) (fun h11=>?_)
    ·have e:x.op=60:=by simpa using h11
     have hb:=hix.close e;unfold bQ at hb;refine sq (rgs [CG.pure (gB (uG m ((aQ m).pc+1) x.a))] rfl ?_ ?_)
     ·have hq:=Nl m ((aQ m).pc+1) x.a hok (by omega);exact au
     refine WP.ret ?_;change Fin ..;refine aO hT rfl rfl rfl rfl rfl (ah ((aF _ _).trans ?_)) rfl rfl rfl;rw [nY,if_neg n66,if_neg n58,if_neg n59,if_pos e];rfl
    ·have n60:x.op≠60:=by simpa using h11
     refine sg rfl ?_;refine cd rfl (fun h13=>?_) (fun h13=>?_)
     ·have e:x.op=62:=by simpa using h13
      refine sq (rgs [CG.pure (gB (oM p m ((aQ m).pc+1) x))] rfl ?_ ?_)
      ·have hq:=O1 p m ((aQ m).pc+1) (dN p (goI m.s m.g)) x hok hp hF hix e (by omega);exact au
      refine WP.ret ?_;change Fin ..;refine aO hT rfl rfl rfl rfl rfl (ah ((aF _ _).trans ?_)) rfl rfl rfl;rw [nY,if_neg n66,if_neg n58,if_neg n59,if_neg n60,if_pos e];rfl
     ·have n62:x.op≠62:=by simpa using h13
      refine sg rfl ?_;refine cd rfl (fun h15=>?_) (fun h15=>?_)
      ·have e:x.op=63:=by simpa using h15
       have hb:=hix.const (.inr (.inr (.inr (.inl e))));simp only [lq]at hb;refine sq (rgs [] rfl ?_ ?_)
       ·exact au
       refine sq (sq ?_);obtain ⟨k,hk⟩:∃ k,bZ (aQ m) x.a=k:=⟨_,rfl⟩;have hrv:nY p m x q alt=x9 m ((aQ m).pc+1) k:=by rw [nY,if_neg n66,if_neg n58,if_neg n59,if_neg n60,if_neg n62,if_pos e,hk]
       refine WP.ent (st':=aK [(2,.int m.g),(5,.rp 62 (encS m.s)),(8,.ptr (.s 8 0) 1 0 []),(10,.ptr (.s 10 0) 1 0 []),(12,.int k)] [(.s 8 0,.cells ⟨301,1,fun _=>(T 301).zero,0⟩),(.s 10 0,.cells ⟨301,1,fun _=>gB (jP m ((aQ m).pc+1)),0⟩)]) ?_ ?_
       ·refine em [] trivial ⟨cq,cq,cq,cq,⟨rfl,_,rfl,ah (by rw [← hk])⟩,tt⟩ ⟨obs rfl,obs rfl,tt⟩
       refine rg [] rfl ?_;refine cd rfl (fun h17=>?_) (fun h17=>?_)
       ·have ht:¬ iV m.s m.g k=true:=by
         simp only [bor]at h17;simp only [iV,decide_eq_true_eq];simp at h17;omega
        refine sg rfl ?_;refine sg rfl ?_;refine WP.ret ?_;change Fin ..;refine aO hT rfl rfl rfl rfl rfl (ah ((aF _ _).trans ?_)) rfl rfl rfl;rw [hrv,x9,if_neg ht];exact tJ (jP m ((aQ m).pc+1)) 7
       ·have ht:iV m.s m.g k=true:=by
         simp only [bor]at h17;simp only [iV,decide_eq_true_eq];simp at h17;omega
        refine sk (sq (rg [] rfl ?_));refine sg rfl ?_;refine WP.ret ?_;change Fin ..;refine aO hT rfl rfl rfl rfl rfl (ah ((aF _ _).trans ?_)) rfl rfl rfl;rw [hrv,x9,if_pos ht];exact kE (jP m ((aQ m).pc+1)) k
      ·have n63:x.op≠63:=by simpa using h15
       refine sg rfl ?_;refine cd rfl (fun h22=>?_) (fun h22=>?_)
       ·have e:x.op=65:=by simpa using h22
        have hb:=hix.const (.inr (.inr (.inl e)));simp only [lq]at hb;refine sq (rgs [] rfl ?_ ?_)
        ·exact au
        refine sg rfl ?_;refine WP.ret ?_;change Fin ..;refine aO hT rfl rfl rfl rfl rfl (ah ((aF _ _).trans ?_)) rfl rfl rfl;rw [nY,if_neg n66,if_neg n58,if_neg n59,if_neg n60,if_neg n62,if_neg n63,if_pos e];exact kE (jP m ((aQ m).pc+1)) _
       ·have n65:x.op≠65:=by simpa using h22
        refine sg rfl ?_;refine cd rfl (fun h25=>?_) (fun h25=>?_)
        ·have e:x.op=61:=by simpa using h25
         obtain ⟨hbn,hse⟩:=hsl e;have hln:=hse.len
         obtain ⟨hal,hcb⟩:=hcs e;have hrv:nY p m x q alt=DX p m q alt:=by rw [nY,if_neg n66,if_neg n58,if_neg n59,if_neg n60,if_neg n62,if_neg n63,if_neg n65,if_pos e]
         refine sq (drs [] rfl ?_ ?_)
         ·simp only [bQ,dN,goI]at hbn hb2;exact au
         refine sq (sq ?_);refine WP.ent (st':=aK [(2,.int m.g),(3,.int alt),(4,.rp 26 (aj p)),(8,.ptr (.s 8 0) 1 0 []),(10,.ptr (.s 10 0) 1 0 []),(11,.rp 52 (o7 52 8 .i64 (aQ m).regs)),(13,.rp 103 (fD q))] [(.s 8 0,.cells ⟨301,1,fun _=>(T 301).zero,0⟩),(.s 10 0,.cells ⟨301,1,fun _=>gB (jP m ((aQ m).pc+1)),0⟩)]) ?_ ?_
         ·refine em [(.s 13 0,1)] ⟨sF,tt⟩ ⟨cq,cq,cq,cq,cq,cq,⟨rfl,_,rfl,aZ rfl rfl (by decide) rfl ((aF _ _).trans (by rw [← hq0,← hx];rfl)) rfl⟩,tt⟩ ⟨obs rfl,obs rfl,tt⟩
         refine rg [] rfl ?_;refine cd rfl (fun h27=>?_) (fun h27=>?_)
         ·have hae:alt=q.cases.length:=by simp [-List.getD_eq_getElem?_getD]at h27;exact h27
          refine sg rfl ?_;refine sg rfl ?_;refine WP.ret ?_;change Fin ..;refine aO hT rfl rfl rfl rfl rfl (ah ((aF _ _).trans ?_)) rfl rfl rfl;rw [hrv,DX,if_pos hae];exact Jc (jP m ((aQ m).pc+1)) q.els
         ·have hae:¬ alt=q.cases.length:=by simp [-List.getD_eq_getElem?_getD]at h27;exact h27
          have hlt:alt<q.cases.length:=by omega
          have hcs2:=hcb hlt;obtain ⟨c,hc0⟩:∃ c,aC q alt.toNat=c:=⟨_,rfl⟩;have hcp:=hse.case c (by rw [← hc0];unfold aC;rw [List.getD_eq_getElem?_getD,List.getElem?_eq_getElem (show alt.toNat<q.cases.length by omega)];exact List.getElem_mem _)
          rw [hc0]at hcs2;have hch:=hcp.chan
          have hrg:=hcp.reg;refine sk (sq (rgs [] rfl ?_ ?_))
          ·exact au
          refine sq ?_;refine WP.ent (st':=aK [(2,.int m.g),(4,.rp 26 (aj p)),(8,.ptr (.s 8 0) 1 0 []),(10,.ptr (.s 10 0) 1 0 []),(11,.rp 52 (o7 52 8 .i64 (aQ m).regs)),(14,.rp 215 (mP c))] [(.s 8 0,.cells ⟨301,1,fun _=>(T 301).zero,0⟩),(.s 10 0,.cells ⟨301,1,fun _=>gB (jP m ((aQ m).pc+1)),0⟩)]) ?_ ?_
          ·refine em [(.s 14 0,1)] ⟨sF,tt⟩ ⟨cq,cq,cq,cq,cq,⟨rfl,_,rfl,aZ rfl rfl (by decide) rfl ((aF _ _).trans (by rw [← hc0];rfl)) rfl⟩,tt⟩ ⟨obs rfl,obs rfl,tt⟩
          refine rg [] rfl ?_;refine sq (sq ?_);refine WP.ent (st':=aK [(2,.int m.g),(4,.rp 26 (aj p)),(8,.ptr (.s 8 0) 1 0 []),(10,.ptr (.s 10 0) 1 0 []),(11,.rp 52 (o7 52 8 .i64 (aQ m).regs)),(14,.rp 215 (mP c))] [(.s 8 0,.cells ⟨301,1,fun _=>(T 301).zero,0⟩),(.s 10 0,.cells ⟨301,1,fun _=>gB (jP m c.to),0⟩)]) ?_ ?_
          ·refine em [] trivial ⟨cq,cq,cq,cq,cq,cq,tt⟩ ⟨obs rfl,obs rfl (hg:=q0 (ah (Jc (jP m ((aQ m).pc+1)) c.to))),tt⟩
          refine rg [] rfl ?_;refine cd rfl (fun h32=>?_) (fun h32=>?_)
          ·have hs2:c.send=true:=h32;have hsd:jl p m.s c.chan=true:=by rw [xM,hs2]at hcs2;simpa using hcs2
           have hr2:=hrg (.inl hs2);unfold lq at hr2;have hlx:=hlens c.chan (by unfold bQ at hch;omega)
           refine sq (drs [CG.pure (gB (mQ p m c.to c.chan (bZ (aQ m) c.reg)))] rfl ?_ ?_)
           ·have hq:=KA p m c.to c.chan (bZ (aQ m) c.reg) hok hch hp hsd hlx.1;exact au
           refine WP.ret ?_;change Fin ..;refine aO hT rfl rfl rfl rfl rfl (ah ((aF _ _).trans ?_)) rfl rfl rfl;rw [hrv,DX,if_neg hae,hc0,if_pos hs2];rfl
          ·have hs2:¬ c.send=true:=fun e=>by rw [e]at h32;cases h32
           have hr2:c.reg = -1∨0≤c.reg∧c.reg<(dN p (goI m.s m.g)).regs:=by
            by_cases hr3:c.reg = -1
            ·exact .inl hr3
            ·have:=hrg (.inr hr3);unfold lq at this;exact .inr this
           unfold bQ at hch;refine sk (sq (rgs [CG.pure (gB (rG m c.to c.chan c.reg (-1)))] rfl ?_ ?_))
           ·have hq:=KC m c.to c.chan c.reg (-1) hok (by omega) (hlens c.chan (by omega)) (Oc h.valid (by omega)) (by omega) (by omega);exact au
           refine WP.ret ?_;change Fin ..;refine aO hT rfl rfl rfl rfl rfl (ah ((aF _ _).trans ?_)) rfl rfl rfl;rw [hrv,DX,if_neg hae,hc0,if_neg hs2];rfl
        ·have n61:x.op≠61:=by simpa using h25
         refine sk (sq (rgs [CG.pure (gB (zJ m ((aQ m).pc+1) x))] rfl ?_ ?_))
         ·have hq:=Tc p m ((aQ m).pc+1) (dN p (goI m.s m.g)) x hok hp hF hix;exact au
         refine WP.ret ?_;change Fin ..;refine aO hT rfl rfl rfl rfl rfl (ah ((aF _ _).trans ?_)) rfl rfl rfl;rw [nY,if_neg n66,if_neg n58,if_neg n59,if_neg n60,if_neg n62,if_neg n63,if_neg n65,if_neg n61];rfl
theorem WS.eP {s:PSt} (h:WS s) {k:Nat} {x:PGo} (hx:okW x):WS { s with gos:=s.gos.set k x}:=⟨h.vars,h.ch,fun g hg=>by
 rcases List.mem_or_eq_of_mem_set hg with h1 | h1
 ·exact h.go g h1
 ·rw [h1];exact hx⟩
theorem WS.bM {s:PSt} (h:WS s) {k:Nat} {x:iM} (hx:(∀ v∈x.buf,inW v)∧inW x.val):WS { s with chans:=s.chans.set k x}:=⟨h.vars,fun c hc=>by
 rcases List.mem_or_eq_of_mem_set hc with h1 | h1
 ·exact h.ch c h1
 ·rw [h1];exact hx,h.go⟩
theorem WS.setVar {s:PSt} (h:WS s) (k:Nat) {x:Int} (hx:inW x):WS { s with vars:=s.vars.set k x}:=⟨fun v hv=>by
 rcases List.mem_or_eq_of_mem_set hv with h1 | h1
 ·exact h.vars v h1
 ·rw [h1];exact hx,h.ch,h.go⟩
theorem WS.setOwn {s:PSt} (h:WS s) (l:List Int):WS { s with owner:=l}:=⟨h.vars,h.ch,h.go⟩
theorem in0:inW 0:=pU (by decide) (by decide)
theorem getD_in {l:List Int} (h:∀ v∈l,inW v) (k:Nat):inW (l.getD k 0):=by
 rw [List.getD_eq_getElem?_getD];rcases Nat.lt_or_ge k l.length with h1 | h1
 ·rw [List.getElem?_eq_getElem h1];exact h _ (List.getElem_mem _)
 ·rw [List.getElem?_eq_none h1];exact in0
theorem Vu {l:List Int} (h:∀ v∈l,inW v) (k:Nat) {x:Int} (hx:inW x):∀ v∈l.set k x,inW v:=fun v hv=>by
 rcases List.mem_or_eq_of_mem_set hv with h1 | h1
 ·exact h v h1
 ·rw [h1];exact hx
theorem WS.chW {s:PSt} (h:WS s) (c:Int):(∀ v∈(chI s c).buf,inW v)∧inW (chI s c).val:=by
 unfold chI;rw [List.getD_eq_getElem?_getD];rcases Nat.lt_or_ge c.toNat s.chans.length with h1 | h1
 ·rw [List.getElem?_eq_getElem h1];exact h.ch _ (List.getElem_mem _)
 ·rw [List.getElem?_eq_none h1];refine ⟨fun v hv=>?_,in0⟩;have:v=0:=by simpa [ch0]using hv
  rw [this];exact in0
theorem uS {m:PM} (h:WS m.s) (r:Int) {v:Int} (hv:inW v):WS (bJ m r v).s:=by
 unfold bJ;split
 ·exact h.eP (DR (h.at m.g) r hv)
 ·exact h
theorem Xp (b:Bool):inW (jM b):=by cases b <;> exact pU (by decide) (by decide)
theorem Wu {m:PM} (h:WS m.s) (c:Int):WS (dM m c).1.s∧inW (dM m c).1.val:=by
 have hc:=h.chW c;unfold dM;split
 ·refine ⟨h.bM ⟨Vu (fun v hv=>?_) _ in0,hc.2⟩,getD_in hc.1 0⟩;simp only [iY,List.mem_cons,List.not_mem_nil,or_false]at hv;rcases hv with rfl | rfl | rfl | rfl <;> exact getD_in hc.1 _
 split
 ·exact ⟨h.bM ⟨hc.1,in0⟩,hc.2⟩
 ·exact ⟨h,in0⟩
theorem Ws {p:ay} {m:PM} (h:WS m.s) (c:Int) {v:Int} (hv:inW v):WS (iK p m c v).s:=by
 have hc:=h.chW c;unfold iK;split
 ·exact h.eP (Ee _ _ _)
 split
 ·exact h.bM ⟨Vu hc.1 _ hv,hc.2⟩
 ·exact (h.bM (x:={ chI m.s c with offer:=1,frm:=m.g,val:=v}) ⟨hc.1,hv⟩).eP (h.at m.g)
theorem JW {p:ay} {m:PM} (h:WS m.s) (to c:Int) {v:Int} (hv:inW v):WS (mQ p m to c v).s:=by
 unfold mQ;split
 ·exact h
 ·exact Ws h c hv
theorem JX {m:PM} (h:WS m.s) (to c r ok:Int):WS (rG m to c r ok).s:=by
 obtain ⟨h1,h2⟩:=Wu h c;exact uS (uS h1 r h2) ok (Xp _)
theorem Oh {m:PM} (h:WS m.s) (x:jR):WS (aX m x).1.s:=by
 have hr:=fun r=>yg (h.at m.g) r;have hv:=fun k=>getD_in h.vars k
 have hcas:WS (mF m x).s:=by
  unfold mF;split
  ·exact h.setVar _ (hr _)
  ·exact h
 have htry:WS (mg m x).s:=by
  unfold mg;split
  ·exact h.setOwn _
  ·exact h
 unfold aX;split
 ·exact uS (m:=cO m (lT m.s x.b)) h _ (hv _)
 split
 ·exact h.setVar _ (hr _)
 split
 ·exact (uS (m:=cO m (bZ (aQ m) x.c)) h x.a (v:=lT m.s x.b) (hv _)).setVar _ (qh _)
 split
 ·exact uS hcas _ (Xp _)
 split
 ·exact h
 split
 ·exact h.setOwn _
 split
 ·split
  ·exact h.eP (Ee _ _ _)
  ·exact h.setOwn _
 split
 ·exact uS htry _ (Xp _)
 ·exact h
theorem Vp {p:ay} {m:PM} (h:WS m.s) (hc:0≤m.s.count∧m.s.count≤6) (x:jR) (q:yP) (alt:Int):WS (nY p m x q alt).s:=by
 have hr:=fun r=>yg (h.at m.g) r;unfold nY;split
 ·exact (h.bM (x:={ chI m.s x.a with offer:=0,frm:=0,val:=0}) ⟨(h.chW _).1,in0⟩).eP (h.at m.g)
 split
 ·exact JW h _ _ (hr _)
 split
 ·exact JX h _ _ _ _
 split
 ·unfold uG;split
  ·exact h
  ·unfold nX;split
   ·exact h.eP (Ee _ _ _)
   split
   ·exact h.bM ⟨(h.chW _).1,in0⟩
   ·exact h.bM (h.chW _)
 split
 ·unfold oM;split
  ·exact h
  ·rename_i hz;rw [show (jP (iE p m x).1 ((aQ m).pc+1)).s=(iE p m x).1.s from rfl,iE,if_neg hz];refine uS (m:=iW p m x) ⟨h.vars,h.ch,fun g hg=>?_⟩ _ (pU (by omega) (by omega));rcases List.mem_or_eq_of_mem_set hg with h1 | h1
   ·exact h.go g h1
   ·rw [h1];intro v hv;obtain ⟨i,_,rfl⟩:=List.mem_map.1 (show v∈EY _ _ _ from hv);split
    ·exact hr _
    ·exact in0
 split
 ·unfold x9;split <;> exact h
 split
 ·exact h
 split
 ·unfold DX;split
  ·exact h
  split
  ·exact JW h _ _ (hr _)
  ·exact JX h _ _ _ _
 ·unfold zJ;split
  ·exact h
  ·exact Oh h x
theorem zo:WS st0:=by
 refine ⟨fun v hv=>?_,fun c hc=>?_,fun g hg=>?_⟩
 ·have:v=0:=by simpa [st0]using hv
  rw [this];exact in0
 ·have:c=ch0:=by simpa [st0]using hc
  rw [this];refine ⟨fun v hv=>?_,in0⟩;have:v=0:=by simpa [ch0]using hv
  rw [this];exact in0
 ·have:g=go0:=by simpa [st0]using hg
  rw [this];exact Qr
theorem zq {p:ay} {s:PSt} (hw:FT p) (h:WS s) (g n:Int):WS (bD p s g n).1:=by
 unfold bD;split
 ·exact zo
 split
 ·exact zo
 split
 ·exact zo
 split
 ·exact zo
 split
 ·exact h.eP (IV (hw.fn _) _ (h.at g))
 ·exact h
theorem RQ {p:ay} (hw:FT p) (n:Int):WS (bV p n).1:=by
 unfold bV;split
 ·exact zo
 split
 ·exact zo
 ·refine ⟨fun v hv=>?_,zo.ch,fun g hg=>?_⟩
  ·obtain ⟨i,_,rfl⟩:=List.mem_map.1 (show v∈kP p p.vars.length from hv);split
   ·rename_i hi;rw [List.getD_eq_getElem?_getD,List.getElem?_eq_getElem hi];exact hw.1 _ (List.getElem_mem _)
   ·exact in0
  ·have hg':g=qg (aY p 0) n.toNat live0∨g=go0:=by simpa [Wl]using hg
   rcases hg' with rfl | rfl
   ·exact IV (hw.fn go0) _ Qr
   ·exact Qr
def kpM (m m':PM):Prop:=m'.g=m.g∧m'.fuel=m.fuel∧m'.over=m.over∧m'.s.count=m.s.count
theorem lD (m:PM):kpM m m:=⟨rfl,rfl,rfl,rfl⟩
theorem yY {a b c:PM} (h1:kpM a b) (h2:kpM b c):kpM a c:=⟨h2.1.trans h1.1,h2.2.1.trans h1.2.1,h2.2.2.1.trans h1.2.2.1,h2.2.2.2.trans h1.2.2.2⟩
theorem vC (m:PM) (r v:Int):kpM m (bJ m r v):=by unfold bJ;split <;> exact lD _
structure MD (m:PM) (D:RD) (r:PM×Int×Int):Prop where
 fail:D.why≠0→r.1.over=true∧r.1.val=0∧r.1.s={ D.s with gos:=D.s.gos.set m.g.toNat (ou (goI D.s m.g) 4 D.why) }
 wait:D.why=0→D.to<0→r.1.over=true∧r.1.s=D.s∧r.1.val=D.val
 run:D.why=0→0≤D.to→r.1=⟨D.s,m.g,m.fuel,D.val,false⟩∧r.2.1=D.to∧(r.2.2 = -1∧D.s.count=m.s.count∨r.2.2=m.s.count∧D.s.count=m.s.count+1)
theorem wB {m m':PM} {to:Int} (ho:m.over=false) (hk:kpM m m') (ht:0≤to):MD m (jP m' to) (m',to,-1) :=
 ⟨fun h=>absurd rfl h,fun _ h=>absurd ht (by show ¬ 0≤(jP m' to).to;omega),fun _ _=>⟨by
  obtain ⟨h1,h2,h3,_⟩:=hk;obtain ⟨s,g,f,v,o⟩:=m';simp only at h1 h2 h3;rw [h1,h2,h3,ho],rfl,.inl ⟨rfl,hk.2.2.2⟩⟩⟩
theorem xA {m m0:PM} {why nx mk:Int} {D:RD} (hD:D.why=why) (hs:D.s=m0.s) (hg:m0.g=m.g) (hw:why≠0):MD m D (jZ m0 why,nx,mk) :=
 ⟨fun _=>⟨rfl,rfl,by rw [hD,hs,← hg];rfl⟩,fun h=>absurd (hD▸h) hw,fun h=>absurd (hD▸h) hw⟩
theorem MV {m:PM} {x:jR} (h:50≤x.op∧x.op≤57):(aX m x).2=true:=by
 unfold aX
 repeat' split
 all_goals first | rfl | (exfalso;omega)
theorem jB {m:PM} {x:jR} (h:¬ (50≤x.op∧x.op≤57)):(aX m x).2=false:=by
 unfold aX
 repeat' split
 all_goals first | rfl | (exfalso;omega)
theorem Qj {m:PM} {x:jR} (h:¬ (x.op=56∧qO m.s x.a≠m.g+1)):kpM m (aX m x).1:=by
 have hc:kpM m (mF m x):=by unfold mF;split <;> exact lD _
 have ht:kpM m (mg m x):=by unfold mg;split <;> exact lD _
 unfold aX;split
 ·exact vC (cO m (lT m.s x.b)) _ _
 split
 ·exact lD _
 split
 ·exact vC (cO m (bZ (aQ m) x.c)) x.a (lT m.s x.b)
 split
 ·exact yY hc (vC _ _ _)
 split
 ·exact lD _
 split
 ·exact lD _
 split
 ·rename_i e;split
  ·rename_i hl;exact absurd ⟨e,hl⟩ h
  ·exact lD _
 split
 ·exact yY ht (vC _ _ _)
 ·exact lD _
theorem XH (m:PM) (c:Int):kpM m (dM m c).1:=by
 unfold dM;split
 ·exact lD _
 split <;> exact lD _
theorem Qb {m:PM} (ho:m.over=false) {to c r ok:Int} (ht:0≤to):MD m (rG m to c r ok) (bJ (bJ (dM m c).1 r (dM m c).1.val) ok (jM (dM m c).2),to,-1) :=
 wB ho (yY (XH m c) (yY (vC _ _ _) (vC _ _ _))) ht
theorem Qa {p:ay} {m:PM} (ho:m.over=false) {to c v:Int} (ht:0≤to):MD m (mQ p m to c v) (iK p m c v,to,-1):=by
 unfold mQ;by_cases hc:(chI m.s c).closed=true
 ·rw [if_pos hc,iK,if_pos hc];exact xA rfl rfl rfl (by decide)
 ·rw [if_neg hc];by_cases hp:0<p.chans.getD c.toNat 0
  ·have e:(⟨(iK p m c v).s,v,0,if 0<p.chans.getD c.toNat 0 then to else -1⟩:RD)=jP (iK p m c v) to:=by rw [if_pos hp,iK,if_neg hc,if_pos hp]
   rw [e];refine wB ho ?_ ht;rw [iK,if_neg hc,if_pos hp];exact lD _
  ·refine ⟨fun h=>absurd rfl h,fun _ _=>?_,fun _ h=>absurd h (by show ¬ (0:Int)≤(if 0<p.chans.getD c.toNat 0 then to else -1);rw [if_neg hp];decide)⟩;rw [iK,if_neg hc,if_neg hp];exact ⟨rfl,rfl,rfl⟩
theorem Uf (m:PM) {r v:Int} (h:r<0):bJ m r v=m:=if_neg (by omega)
theorem MH {p:ay} {s:PSt} {g alt:Int} (ha:alt∈kU p s g) (h:(atI p s g).op=61) (e:alt=(dK p s g).cases.length):(dK p s g).els ≠ -1:=by
 rw [kU,if_neg (by simp [h]),kS]at ha;have hno:alt∉dZ p s (dK p s g) (dK p s g).cases.length:=fun hm=>by
  obtain ⟨j,h1,h2,_⟩:=pX.1 hm;omega
 split at ha
 ·rename_i hb;rw [Bool.and_eq_true]at hb;simpa using hb.2
 ·exact absurd ha hno
theorem zy {p:ay} {s:PSt} {g n alt:Int} (h:dR p s g) (ha:alt∈kU p s g):MD (jE s g n) (nY p (jE s g n) (atI p s g) (dK p s g) alt) (vN p (jE s g n) (atI p s g) alt):=by
 have hpc:=h.fit.2.2.1;unfold bQ at hpc;have hcs:=zk ha
 have hsl:=h.sel;have hop:(atI p s g).op≠66→su (atI p s g).op=true∨EX (atI p s g).op=true:=fun e=>by rw [h.at.ins e];exact h.ins.op
 have hrd:(atI p s g).op≠61→gY p s g=true:=fun e=>(wK ha e).1;have hq0:aU (dN p (goI s g)) (atI p s g).a.toNat=dK p s g:=rfl
 have hct:=h.valid.2.1;have hvis:(atI p s g).op≠66→50≤(atI p s g).op:=fun e=>by
  rcases hop e with h1 | h1
  ·by_cases e61:(atI p s g).op=61
   ·omega
   ·have h2:=hrd e61;unfold su at h1;unfold gY at h2;simp only [Bool.or_eq_true,Bool.and_eq_true,decide_eq_true_eq]at h1;rw [if_neg (by omega),if_neg (by omega),if_neg (by omega),if_neg (by omega),if_neg (by omega),if_neg (by omega)]at h2;unfold EX at h2;simp only [Bool.and_eq_true,decide_eq_true_eq]at h2;omega
  ·unfold EX at h1;simp only [Bool.and_eq_true,decide_eq_true_eq]at h1;omega
 obtain ⟨m,hm⟩:∃ m,jE s g n=m:=⟨_,rfl⟩;have ho:m.over=false:=by rw [← hm];rfl
 have hms:m.s=s:=by rw [← hm];rfl
 have hmg:m.g=g:=by rw [← hm];rfl
 have hmv:m.val=0:=by rw [← hm];rfl
 rw [hm];subst hms hmg;obtain ⟨x,hx⟩:∃ x,atI p m.s m.g=x:=⟨_,rfl⟩;obtain ⟨q,hq⟩:∃ q,dK p m.s m.g=q:=⟨_,rfl⟩;rw [hx]at hcs hsl hvis hq0 ⊢;rw [hq]at hcs hsl hq0 ⊢;have hpos:0≤(aQ m).pc+1:=by show 0≤(goI m.s m.g).pc+1;omega
 unfold nY vN;by_cases e66:x.op=66
 ·rw [if_pos e66,jB (by omega),if_neg (by decide),if_neg (by omega),if_neg (by omega),if_pos e66,uZ,pq];by_cases ho3:(chI m.s x.a).offer=3
  ·rw [if_pos ho3,if_pos ho3];exact xA rfl rfl rfl (by decide)
  ·rw [if_neg ho3,if_neg ho3];exact wB ho ⟨rfl,rfl,rfl,rfl⟩ hpos
 rw [if_neg e66];have hge:=hvis e66
 by_cases e58:x.op=58
 ·rw [if_pos e58,jB (by omega),if_neg (by decide),if_pos e58];exact Qa ho hpos
 rw [if_neg e58];by_cases e59:x.op=59
 ·rw [if_pos e59,jB (by omega),if_neg (by decide),if_neg e58,if_pos e59];exact Qb ho hpos
 rw [if_neg e59];by_cases e60:x.op=60
 ·rw [if_pos e60,jB (by omega),if_neg (by decide),if_neg e58,if_neg e59,if_neg e66,if_pos e60];unfold uG;by_cases hc:(chI m.s x.a).closed=true
  ·rw [if_pos hc,nX,if_pos hc];exact xA rfl rfl rfl (by decide)
  ·rw [if_neg hc];refine wB ho ?_ hpos;rw [nX,if_neg hc];split <;> exact lD _
 rw [if_neg e60];by_cases e62:x.op=62
 ·rw [if_pos e62,jB (by omega),if_neg (by decide),if_neg e58,if_neg e59,if_neg e66,if_neg e60,if_neg (by omega),if_pos e62];unfold oM;by_cases hc:m.s.count=6
  ·rw [if_pos hc,iE,if_pos hc];exact xA rfl rfl rfl (by decide)
  ·rw [if_neg hc,iE,if_neg hc];have hk:=vC (iW p m x) x.a m.s.count
   refine ⟨fun h=>absurd rfl h,fun _ h=>absurd h (by show ¬ (aQ m).pc+1<0;omega),fun _ _=>⟨?_,rfl,.inr ⟨rfl,hk.2.2.2⟩⟩⟩;obtain ⟨h1,h2,h3,_⟩:=hk;show bJ (iW p m x) x.a m.s.count=_
   generalize bJ (iW p m x) x.a m.s.count=m' at *
   obtain ⟨s,g,f,v,o⟩:=m';simp only at h1 h2 h3;rw [h1,h2,h3];show (⟨s,m.g,m.fuel,v,m.over⟩:PM)=⟨s,m.g,m.fuel,v,false⟩
   rw [ho]
 rw [if_neg e62];by_cases e63:x.op=63
 ·rw [if_pos e63,jB (by omega),if_neg (by decide),if_neg e58,if_neg e59,if_neg e66,if_neg e60,if_neg (by omega),if_neg e62,if_pos e63];unfold x9;by_cases ht:iV m.s m.g (bZ (aQ m) x.a)=true
  ·rw [if_pos ht,if_pos ht];exact wB (m':=cO m (bZ (aQ m) x.a)) ho ⟨rfl,rfl,rfl,rfl⟩ hpos
  ·rw [if_neg ht,if_neg ht];exact xA rfl rfl rfl (by decide)
 rw [if_neg e63];by_cases e65:x.op=65
 ·rw [if_pos e65,jB (by omega),if_neg (by decide),if_neg e58,if_neg e59,if_neg e66,if_neg e60,if_neg (by omega),if_neg e62,if_neg e63,if_pos e65];exact wB (m':=cO m (bZ (aQ m) x.a)) ho ⟨rfl,rfl,rfl,rfl⟩ hpos
 rw [if_neg e65];by_cases e61:x.op=61
 ·rw [if_pos e61,jB (by omega),if_neg (by decide),if_neg e58,if_neg e59,if_neg e66,if_neg e60,if_pos e61];have hq1:aU (dN p (aQ m)) x.a.toNat=q:=hq0
  rw [hq1];obtain ⟨_,hse⟩:=hsl e61;obtain ⟨hal,_⟩:=hcs e61;unfold DX gV;by_cases hae:alt=q.cases.length
  ·rw [if_pos hae,if_pos hae];have hels:q.els ≠ -1:=by rw [← hq];exact MH ha (by rw [hx];exact e61) (by rw [hq];exact hae)
   have hb:=hse.els hels;unfold bQ at hb;exact wB (m':=m) ho (lD m) hb.1
  ·rw [if_neg hae,if_neg hae];have hcp:=hse.case (aC q alt.toNat) (by unfold aC;rw [List.getD_eq_getElem?_getD,List.getElem?_eq_getElem (show alt.toNat<q.cases.length by omega)];exact List.getElem_mem _)
   have hb:=hcp.to;unfold bQ at hb;by_cases hs:(aC q alt.toNat).send=true
   ·rw [if_pos hs,if_pos hs];exact Qa ho hb.1
   ·rw [if_neg hs,if_neg hs];have:=Qb (m:=m) (c:=(aC q alt.toNat).chan) (r:=(aC q alt.toNat).reg) (ok := -1) ho hb.1
    rw [Uf _ (by decide)]at this;exact this
 rw [if_neg e61];unfold zJ;by_cases h5:50≤x.op∧x.op≤57
 ·rw [MV h5,if_pos rfl];by_cases hf:x.op=56∧qO m.s x.a≠m.g+1
  ·rw [if_pos hf];have e:(aX m x).1=jZ m 6:=by
    obtain ⟨e56,hl⟩:=hf;rw [aX,if_neg (by omega),if_neg (by omega),if_neg (by omega),if_neg (by omega),if_neg (by omega),if_neg (by omega),if_pos e56,if_pos hl]
   rw [e];exact xA rfl rfl rfl (by decide)
  ·rw [if_neg hf];exact wB ho (Qj hf) hpos
 ·have hsn:=jB (m:=m) h5;rw [if_neg (show ¬ (x.op=56∧qO m.s x.a≠m.g+1)from fun hh=>by omega),hsn,if_neg (by decide),if_neg e58,if_neg e59,if_neg e66,if_neg e60,if_neg e61,if_neg e62,if_neg e63,if_neg e65,(FH hsn).1];exact wB (m':=m) ho (lD m) hpos
def QH (p:ay) (s:PSt) (x:bI) (val:Int) (k:Nat):Evt:={ lF p s x val with ts:=((dO p s x.go).take k).map BT.t,n:=0}
theorem UK {p:ay} {s:PSt} {x:bI} {val:Int} {k:Nat} (h:k≤(dO p s x.go).length):(QH p s x val k).ts.length=k:=by
 show (((dO p s x.go).take k).map BT.t).length=k;rw [List.length_map,List.length_take];omega
theorem Ph (p:ay) (s:PSt) (x:bI) (val:Int) (h:dR p s x.go):AC Tryz.prog T bn 210 [aj p,encS s,aV x,.int val] [] (kF (lF p s x val)) []:=by
 refine aA hT Tryz.func210 rfl rfl (Nat.le_of_ble_eq_true rfl) ?_;have hg:=h.pos
 have htl:=BQ h;refine sg rfl ?_;refine sq ?_;refine WP.ent (st':=aK [(4,.rp 26 (aj p)),(5,.rp 62 (encS s)),(6,.rp 122 (aV x)),(3,.int val),(8,.ptr (.s 8 0) 1 0 [])] [(.s 8 0,.cells ⟨137,1,fun _=>(T 137).zero,0⟩)]) (em [(.s 4 0,1),(.s 5 0,1),(.s 6 0,1)] ⟨sF,sF,sF,tt⟩ ⟨rq,rq,rq,cq,cq,tt⟩ ⟨obs rfl,tt⟩) ?_;refine rgs [CG.pure (aP (insOf p (goI s x.go)))] rfl ?_ ?_
 ·have hq:=tu p s x.go h;exact au
 refine sq ?_;refine WP.ent (st':=aK [(3,.int val),(4,.rp 26 (aj p)),(5,.rp 62 (encS s)),(6,.rp 122 (aV x)),(8,.ptr (.s 8 0) 1 0 []),(9,.rp 120 (aP (insOf p (goI s x.go))))] [(.s 8 0,.cells ⟨137,1,fun _=>(T 137).zero,0⟩)]) ?_ ?_
 ·refine em [(.s 9 0,1)] ⟨sF,tt⟩ ⟨cq,cq,cq,cq,cq,⟨rfl,_,rfl,aZ rfl rfl (by decide) rfl (aF _ _) rfl⟩,tt⟩ ⟨obs rfl,tt⟩
 refine drs [CG.pure (.int (atI p s x.go).op)] rfl ?_ ?_
 ·have hq:=CB p s x.go h;exact au
 refine WP.seqJ (α:=Unit) (fun _=>aK [(4,.rp 26 (aj p)),(5,.rp 62 (encS s)),(6,.rp 122 (aV x)),(8,.ptr (.s 8 0) 1 0 []),(10,.ptr (.s 10 0) 1 0 [])] [(.s 8 0,.cells ⟨137,1,fun _=>(T 137).zero,0⟩),(.s 10 0,.cells ⟨137,1,fun _=>kF (QH p s x val 0),0⟩)]) (fun _=>True) ?_ ?_
 ·refine sq ?_;refine WP.ent (st':=aK [(4,.rp 26 (aj p)),(5,.rp 62 (encS s)),(6,.rp 122 (aV x)),(8,.ptr (.s 8 0) 1 0 []),(9,.rp 120 (aP (insOf p (goI s x.go)))),(10,.ptr (.s 10 0) 1 0 [])] [(.s 8 0,.cells ⟨137,1,fun _=>(T 137).zero,0⟩),(.s 10 0,.cells ⟨137,1,fun _=>kF ⟨x.go,(goI s x.go).func,(goI s x.go).pc,(atI p s x.go).op,x.alt,val,0,[],0⟩,0⟩)]) ?_ ?_
  ·refine em [] trivial ⟨cq,cq,cq,cq,cq,cq,tt⟩ ⟨obs rfl,obs rfl (hg:=q0 (ah ((aF _ _).trans ((congrArg (fun z=>AV.put z [5] (.int val)) (QW x.go (goI s x.go).func (goI s x.go).pc (atI p s x.go).op x.alt)).trans (KN _ _))))),tt⟩
  refine rg [] rfl ?_;refine cd rfl (fun h3=>?_) (fun h3=>?_)
  ·have e:(atI p s x.go).op=65:=by simpa using h3
   have hn:(insOf p (goI s x.go)).n=(atI p s x.go).n:=by rw [h.at.ins (by omega)]
   refine rg [] rfl ?_;refine ⟨(),?_,?_⟩
   ·trivial
   ·refine em [] trivial ⟨cq,cq,cq,cq,cq,tt⟩ ⟨obs rfl,obs rfl (hg:=q0 (ah ((KO _ _).trans (by rw [QH,lF,if_pos e,hn];rfl)))),tt⟩
  ·have e:¬ (atI p s x.go).op=65:=by simpa using h3
   refine sk ?_;refine ⟨(),?_,?_⟩
   ·trivial
   ·refine em [] trivial ⟨cq,cq,cq,cq,cq,tt⟩ ⟨obs rfl,obs rfl (hg:=q0 (ah (by rw [QH,lF,if_neg e];rfl))),tt⟩
 ·rintro _ h_inv;refine sq (rgs [CG.pure (rowA (dO p s x.go))] rfl ?_ ?_)
  ·have hq:=OX p s x.go h;exact au
  refine sq (sq (rg [] rfl ?_));refine bk ?_;refine WP.loop (α:=Nat) (fun k=>aK [(8,.ptr (.s 8 0) 1 0 []),(10,.ptr (.s 10 0) 1 0 []),(11,rowA (dO p s x.go)),(12,.int k)] [(.s 8 0,.cells ⟨137,1,fun _=>(T 137).zero,0⟩),(.s 10 0,.cells ⟨137,1,fun _=>kF (QH p s x val k),0⟩)]) (fun k=>k≤(dO p s x.go).length) (fun k=>(dO p s x.go).length - k) ?_ ?_
  ·refine ⟨0,?_,?_⟩
   ·exact Nat.zero_le _
   ·refine em [] trivial ⟨cq,cq,cq,cq,tt⟩ ⟨obs rfl,obs rfl,tt⟩
  ·rintro k hk;refine sq (sq (rg [] rfl ?_));refine cd rfl (fun h7=>?_) (fun h7=>?_)
   ·have hkl:k<(dO p s x.go).length:=by simp [-List.getD_eq_getElem?_getD]at h7;omega
    have hlen:=UK (val:=val) hk;refine sk (sq (bk (rgs [] rfl ?_ ?_)))
    ·exact au
    have hput:(kF (QH p s x val k)).put [7,k] (fH ((dO p s x.go).getD k bt0))=kF (QH p s x val (k+1)):=by
     have h1:=PG (QH p s x val k) (t:=((dO p s x.go).getD k bt0).t) (by rw [hlen];omega);rw [hlen]at h1;refine h1.trans ?_;have e:(QH p s x val k).ts++[((dO p s x.go).getD k bt0).t]=(QH p s x val (k+1)).ts:=by
      show ((dO p s x.go).take k).map BT.t++_=((dO p s x.go).take (k+1)).map BT.t;rw [List.take_add_one,List.getElem?_eq_getElem hkl,List.map_append,List.getD_eq_getElem?_getD,List.getElem?_eq_getElem hkl];rfl
     rw [e];rfl
    refine rg [] rfl ?_;refine ⟨k+1,?_,?_,?_⟩
    ·exact hkl
    ·refine em [] trivial ⟨cq,cq,cq,cq,tt⟩ ⟨obs rfl,obs rfl (hg:=q0 (ah hput)),tt⟩
    ·(try simp only []);first | omega | grind
   ·have hkl:k=(dO p s x.go).length:=by simp [-List.getD_eq_getElem?_getD]at h7;omega
    subst hkl;refine xt (sq (rg [] rfl ?_));refine sg rfl ?_;refine WP.ret ?_;change Fin ..;refine aO hT rfl rfl rfl rfl rfl (ah ((aF _ _).trans ((VE _ _).trans ?_))) rfl rfl rfl;rw [QH,List.take_length];rfl
theorem WW (p:ay) (s:PSt) (x:bI) (ho:OkS s) (hv:dw p s):AC Tryz.prog T bn 148 [aj p,encS s,aV x] [] (.bool (decide (x.alt∈qc p s x.go))) []:=by
 refine aA hT Tryz.func148 rfl rfl (Nat.le_of_ble_eq_true rfl) ?_;refine sg rfl ?_;refine sq ?_;refine WP.ent (st':=aK [(3,.rp 26 (aj p)),(4,.rp 62 (encS s)),(5,.rp 122 (aV x))] []) (em [(.s 3 0,1),(.s 4 0,1),(.s 5 0,1)] ⟨sF,sF,sF,tt⟩ ⟨rq,rq,rq,tt⟩ trivial) ?_;refine rgs [CG.pure (ints false (qc p s x.go))] rfl ?_ ?_
 ·have hq:=KI p s x.go ho hv;exact au
 refine sq (sq ?_);refine WP.rowlen 7 rfl (fun hl=>?_);refine rg [] rfl ?_;refine bk ?_;refine WP.loop (α:=Nat) (fun i=>aK [(5,.rp 122 (aV x)),(7,ints false (qc p s x.go)),(8,.int i)] []) (fun i=>i≤(qc p s x.go).length∧x.alt∉(qc p s x.go).take i) (fun i=>(qc p s x.go).length - i) ?_ ?_
 ·refine ⟨0,?_,?_⟩
  ·exact ⟨Nat.zero_le _,by simp⟩
  ·refine em [] trivial ⟨cq,cq,cq,tt⟩ trivial
 ·rintro i ⟨hi,hn⟩;refine sq (sq (rg [] rfl ?_));refine cd rfl (fun h3=>?_) (fun h3=>?_)
  ·have hil:i<(qc p s x.go).length:=by simp [-List.getD_eq_getElem?_getD]at h3;omega
   have e:(qc p s x.go).take (i+1)=(qc p s x.go).take i++[(qc p s x.go).getD i 0]:=by
    rw [List.take_add_one,List.getElem?_eq_getElem hil,List.getD_eq_getElem?_getD,List.getElem?_eq_getElem hil];rfl
   refine sk (sq (bk (sq (drs [] rfl ?_ ?_))))
   ·exact au
   refine cd rfl (fun h5=>?_) (fun h5=>?_)
   ·have he:(qc p s x.go).getD i 0=x.alt:=by simp [-List.getD_eq_getElem?_getD]at h5;exact h5
    refine sg rfl ?_;refine WP.ret ?_;change Fin ..;refine fin1 hT (by rfl) ?_;symm;refine decide_eq_true (List.mem_of_mem_take (i:=i+1) ?_);rw [e,he];simp
   ·have he:¬ (qc p s x.go).getD i 0=x.alt:=by simp [-List.getD_eq_getElem?_getD]at h5;exact h5
    refine sk (rg [] rfl ?_);refine ⟨i+1,?_,?_,?_⟩
    ·refine ⟨hil,?_⟩;rw [e];simp only [List.mem_append,List.mem_singleton];rintro (h1 | h1)
     ·exact hn h1
     ·exact he h1.symm
    ·refine em [] trivial ⟨cq,cq,cq,tt⟩ trivial
    ·(try simp only []);first | omega | grind
  ·have hil:i=(qc p s x.go).length:=by simp [-List.getD_eq_getElem?_getD]at h3;omega
   rw [hil,List.take_length]at hn;refine xt (sq (rg [] rfl ?_));exact WP.ret (fin1 hT (by rfl) (decide_eq_false hn).symm)
theorem Us {s:PSt} {g:Int} {x:PGo} (hl:g.toNat<s.gos.length):goI { s with gos:=s.gos.set g.toNat x} g=x:=by
 show (s.gos.set g.toNat x).getD g.toNat go0=x;rw [List.getD_eq_getElem?_getD,List.getElem?_set_self hl];rfl
theorem xY (p:ay) (s:PSt) (g n:Int):(bD p s g n).1.count=s.count∨(bD p s g n).1=st0:=by
 unfold bD;split
 ·exact .inr rfl
 split
 ·exact .inr rfl
 split
 ·exact .inr rfl
 split
 ·exact .inr rfl
 split
 ·exact .inl rfl
 ·exact .inl rfl
theorem WE (p:ay):¬ dw p st0:=fun h=>by have:=h.2.1.1;exact absurd this (by decide)
theorem MW (p:ay) (g n:Int):(bD p st0 g n).1=st0:=by
 unfold bD;split
 ·rfl
 ·rw [if_pos (WE p)]
abbrev Oo (p:ay) (s:PSt) (x:bI) (n:Int):RD:=nY p (jE s x.go n) (atI p s x.go) (dK p s x.go) x.alt
theorem KT {p:ay} {m:PM} (h:OkM m) (to c v:Int):OkS (mQ p m to c v).s:=by
 unfold mQ;split
 ·exact h.s
 ·exact (Eh h c v).s
theorem Xm {p:ay} {m:PM} (h:OkM m) (x:jR) (q:yP) (alt:Int):OkS (nY p m x q alt).s:=by
 have hr:∀ to c r ok,OkS (rG m to c r ok).s:=fun _ _ _ _=>(mM (mM (qy h _) _ _) _ _).s;unfold nY;split
 ·exact (tK h x.a).s
 split
 ·exact KT h _ _ _
 split
 ·exact hr _ _ _ _
 split
 ·unfold uG;split
  ·exact h.s
  ·exact (KU h _).s
 split
 ·unfold oM;split
  ·exact h.s
  ·exact (F5 h x).s
 split
 ·unfold x9;split <;> exact h.s
 split
 ·exact h.s
 split
 ·unfold DX;split
  ·exact h.s
  split
  ·exact KT h _ _ _
  ·exact hr _ _ _ _
 ·unfold zJ;split
  ·exact h.s
  ·exact (CW h x).s
theorem Ti (p:ay) (s:PSt) (x:bI) (n:Int) (h:dR p s x.go) (hx:x.alt∈kU p s x.go) (hn:0≤n∧n≤4096) (hw:FT p) (hws:WS s):AC Tryz.prog T bn 149 [aj p,encS s,aV x,.int n] [] (.tup [encS (doF p s x n).1,kF (doF p s x n).2.1]) []:=by
 refine aA hT Tryz.func149 rfl rfl (Nat.le_of_ble_eq_true rfl) ?_;have hg:=h.pos
 have hct:=h.valid.2.1;have hdo:doF p s x n=((yC p (sU p s x n).1 (sU p s x n).2.1 (sU p s x n).2.2).s,lF p s x (sU p s x n).1.val,0):=by
  rw [doF,if_neg (by rw [vM,if_neg (by rw [h.valid.1];decide),if_neg (fun hh=>hh h.valid)];decide),if_neg (fun hh=>hh hn),if_neg (fun hh=>hh ⟨h.pos,h.live,hx⟩)]
 have hmd:MD (jE s x.go n) (Oo p s x n) (sU p s x n):=zy h hx;have hws2:WS (Oo p s x n).s:=Vp (m:=jE s x.go n) hws (by show 0≤s.count∧s.count≤6;omega) _ _ _
 have hok2:OkS (Oo p s x n).s:=Xm (Ei h.ok h.pos) _ _ _;have hvc:AC Tryz.prog T bn 209 [aj p,encS s,.int x.go,.int x.alt] [] (gB (Oo p s x n)) []:=WL p s x.go n x.alt h hx
 have hevt:=fun v=>Ph p s x v h;rw [hdo];obtain ⟨D,hD⟩:∃ D,Oo p s x n=D:=⟨_,rfl⟩;rw [hD]at hmd hws2 hok2 hvc;obtain ⟨r,hr⟩:∃ r,sU p s x n=r:=⟨_,rfl⟩;rw [hr]at hmd ⊢;have hgl:=hok2.gos
 have hgl6:x.go.toNat<D.s.gos.length:=by omega
 refine sg rfl ?_;refine sq ?_;refine WP.ent (st':=aK [(4,.rp 26 (aj p)),(5,.rp 62 (encS s)),(6,.rp 122 (aV x)),(3,.int n),(8,.ptr (.s 8 0) 1 0 []),(9,.ptr (.s 9 0) 1 0 [])] [(.s 8 0,.cells ⟨62,1,fun _=>(T 62).zero,0⟩),(.s 9 0,.cells ⟨137,1,fun _=>(T 137).zero,0⟩)]) (em [(.s 4 0,1),(.s 5 0,1),(.s 6 0,1)] ⟨sF,sF,sF,tt⟩ ⟨rq,rq,rq,cq,cq,cq,tt⟩ ⟨obs rfl,obs rfl,tt⟩) ?_;refine rg [] rfl ?_;refine sq (rgs [CG.pure (gB D)] rfl ?_ ?_)
 ·exact au
 refine sq (sq ?_);refine WP.ent (st':=aK [(3,.int n),(4,.rp 26 (aj p)),(5,.rp 62 (encS s)),(6,.rp 122 (aV x)),(8,.ptr (.s 8 0) 1 0 []),(9,.ptr (.s 9 0) 1 0 []),(10,.int x.go),(11,.ptr (.s 11 0) 1 0 [])] [(.s 8 0,.cells ⟨62,1,fun _=>(T 62).zero,0⟩),(.s 9 0,.cells ⟨137,1,fun _=>(T 137).zero,0⟩),(.s 11 0,.cells ⟨301,1,fun _=>gB D,0⟩)]) ?_ ?_
 ·refine em [] trivial ⟨cq,cq,cq,cq,cq,cq,cq,cq,tt⟩ ⟨obs rfl,obs rfl,obs rfl (hg:=q0 (ah (aF _ _))),tt⟩
 refine rg [] rfl ?_;refine cd rfl (fun h3=>?_) (fun h3=>?_)
 ·have hwy:D.why≠0:=by simp [-List.getD_eq_getElem?_getD]at h3;exact h3
  obtain ⟨f1,f2,f3⟩:=hmd.fail hwy;refine sq (rgs [] rfl ?_ ?_)
  ·exact au
  refine sq (rgs [] rfl ?_ ?_)
  ·exact au
  refine sq (rgs [] rfl ?_ ?_)
  ·exact au
  refine sq ?_;have stp:∀ (g1 g2:PGo) (q:List Nat) (y:AV),(bP g1).put q y=bP g2→(gB { D with s:={ D.s with gos:=D.s.gos.set x.go.toNat g1} }).put (0::3::x.go.toNat::q) y=gB { D with s:={ D.s with gos:=D.s.gos.set x.go.toNat g2} }:=fun g1 g2 q y e=>by
   rw [jd (lu (s:={ D.s with gos:=D.s.gos.set x.go.toNat g1}) (by show x.go.toNat<(D.s.gos.set x.go.toNat g1).length;rw [List.length_set];exact hgl6) (g:=g2) (by rw [show ({ D.s with gos:=D.s.gos.set x.go.toNat g1}:PSt).gos.getD x.go.toNat go0=g1 from Us hgl6];exact e))];simp only [List.set_set]
  have hfl:(((gB D).put [0,3,x.go.toNat,0] (.int 4)).put [0,3,x.go.toNat,3] (.int D.why)).put [0,3,x.go.toNat,4] (.agg 52 8 fun _=>AV.int 0)=gB { D with s:={ D.s with gos:=D.s.gos.set x.go.toNat (ou (goI D.s x.go) 4 D.why) } }:=by
   rw [jd (lu hgl6 (dV _ 4)),stp _ _ _ _ (zW _ D.why),E8,stp _ _ _ _ (CO _ z8)];rfl
  refine WP.ent (st':=aK [(4,.rp 26 (aj p)),(5,.rp 62 (encS s)),(6,.rp 122 (aV x)),(8,.ptr (.s 8 0) 1 0 []),(9,.ptr (.s 9 0) 1 0 []),(11,.ptr (.s 11 0) 1 0 [])] [(.s 8 0,.cells ⟨62,1,fun _=>(T 62).zero,0⟩),(.s 9 0,.cells ⟨137,1,fun _=>(T 137).zero,0⟩),(.s 11 0,.cells ⟨301,1,fun _=>gB { D with s:={ D.s with gos:=D.s.gos.set x.go.toNat (ou (goI D.s x.go) 4 D.why) } },0⟩)]) ?_ ?_
  ·refine em [] trivial ⟨cq,cq,cq,cq,cq,cq,tt⟩ ⟨obs rfl,obs rfl,obs rfl (hg:=q0 (ah hfl)),tt⟩
  refine drs [CG.pure (kF (lF p s x 0))] rfl ?_ ?_
  ·have hq:=hevt 0;exact au
  refine WP.ret ?_;change Fin ..;have e:(yC p r.1 r.2.1 r.2.2).s={ D.s with gos:=D.s.gos.set x.go.toNat (ou (goI D.s x.go) 4 D.why) }:=by rw [yC,if_pos f1,f3];rfl
  rw [e,f2];exact aJ hT [(.s 8 0,1),(.s 9 0,1)] (ts:=[(8,.rp 62 (encS { D.s with gos:=D.s.gos.set x.go.toNat (ou (goI D.s x.go) 4 D.why) })),(9,.rp 137 (kF (lF p s x 0)))]) (l:=[encS { D.s with gos:=D.s.gos.set x.go.toNat (ou (goI D.s x.go) 4 D.why) },kF (lF p s x 0)]) ⟨sF,sF,tt⟩ ⟨⟨rfl,_,rfl,aZ rfl rfl (by simp [dP,aI]) rfl (aF _ _) rfl⟩,⟨rfl,_,rfl,aZ rfl rfl (by simp [dP,Id.beq]) rfl (aF _ _) (nP _)⟩,tt⟩ trivial rfl rfl rfl
 ·have hwy:D.why=0:=by simp [-List.getD_eq_getElem?_getD]at h3;exact h3
  refine sk (sq (rgs [CG.pure (kF (lF p s x D.val))] rfl ?_ ?_))
  ·have hq:=hevt D.val;exact au
  refine sq (sq ?_);refine WP.ent (st':=aK [(3,.int n),(4,.rp 26 (aj p)),(5,.rp 62 (encS s)),(8,.ptr (.s 8 0) 1 0 []),(9,.ptr (.s 9 0) 1 0 []),(10,.int x.go),(11,.ptr (.s 11 0) 1 0 []),(12,.rp 137 (kF (lF p s x D.val)))] [(.s 8 0,.cells ⟨62,1,fun _=>(T 62).zero,0⟩),(.s 9 0,.cells ⟨137,1,fun _=>(T 137).zero,0⟩),(.s 11 0,.cells ⟨301,1,fun _=>gB D,0⟩)]) ?_ ?_
  ·refine em [(.s 12 0,1)] ⟨sF,tt⟩ ⟨cq,cq,cq,cq,cq,cq,cq,⟨rfl,_,rfl,aZ rfl rfl (by decide) rfl (aF _ _) rfl⟩,tt⟩ ⟨obs rfl,obs rfl,obs rfl,tt⟩
  refine rg [] rfl ?_;refine cd rfl (fun h9=>?_) (fun h9=>?_)
  ·have hto:D.to<0:=by simp [-List.getD_eq_getElem?_getD]at h9;exact h9
   obtain ⟨w1,w2,w3⟩:=hmd.wait hwy hto;refine sq (dr [] rfl ?_);refine WP.ret ?_;change Fin ..;have e:(yC p r.1 r.2.1 r.2.2).s=D.s:=by rw [yC,if_pos w1,w2]
   rw [e,w3];exact aJ hT [(.s 8 0,1),(.s 9 0,1)] (ts:=[(8,.rp 62 (encS D.s)),(9,.rp 137 (kF (lF p s x D.val)))]) (l:=[encS D.s,kF (lF p s x D.val)]) ⟨sF,sF,tt⟩ ⟨⟨rfl,_,rfl,aZ rfl rfl (by simp [dP,aI]) rfl (aF _ _) rfl⟩,⟨rfl,_,rfl,aZ rfl rfl (by simp [dP,Id.beq]) rfl (aF _ _) (nP _)⟩,tt⟩ trivial rfl rfl rfl
  ·have hto:0≤D.to:=by simp [-List.getD_eq_getElem?_getD]at h9;omega
   obtain ⟨r1,r2,r3⟩:=hmd.run hwy hto;have hrs:r.1.s=D.s∧r.1.g=x.go∧r.1.fuel=n∧r.1.val=D.val∧r.1.over=false:=by rw [r1];exact ⟨rfl,rfl,rfl,rfl,rfl⟩
   refine sk (sq (rgs [] rfl ?_ ?_))
   ·exact au
   refine sq ?_;obtain ⟨s1,hs1⟩:∃ s1:PSt,s1={ D.s with gos:=D.s.gos.set x.go.toNat { goI D.s x.go with pc:=D.to} }:=⟨_,rfl⟩;have hok1:OkS s1:=by rw [hs1];exact hok2.eP (x:={ goI D.s x.go with pc:=D.to}) (fJ hok2 _)
   have hws1:WS s1:=by rw [hs1];exact hws2.eP (x:={ goI D.s x.go with pc:=D.to}) (hws2.at x.go)
   refine WP.ent (st':=aK [(3,.int n),(4,.rp 26 (aj p)),(5,.rp 62 (encS s)),(8,.ptr (.s 8 0) 1 0 []),(9,.ptr (.s 9 0) 1 0 []),(10,.int x.go),(11,.ptr (.s 11 0) 1 0 []),(12,.rp 137 (kF (lF p s x D.val)))] [(.s 8 0,.cells ⟨62,1,fun _=>(T 62).zero,0⟩),(.s 9 0,.cells ⟨137,1,fun _=>(T 137).zero,0⟩),(.s 11 0,.cells ⟨301,1,fun _=>gB { D with s:=s1},0⟩)]) ?_ ?_
   ·refine em [] trivial ⟨cq,cq,cq,cq,cq,cq,cq,cq,tt⟩ ⟨obs rfl,obs rfl,obs rfl (hg:=q0 (ah (by rw [hs1];exact jd (lu hgl6 (ng _ D.to))))),tt⟩
   refine rgs [CG.pure (.tup [encS (bD p s1 x.go n).1,.int (bD p s1 x.go n).2])] rfl ?_ ?_
   ·have hq:=Ci p s1 x.go n hok1 hw hws1;exact au
   refine sq (sq ?_);obtain ⟨s2,hs2⟩:∃ s2,(bD p s1 x.go n).1=s2:=⟨_,rfl⟩;have hws3:WS s2:=by rw [← hs2];exact zq hw hws1 _ _
   have hok3:OkS s2:=by rw [← hs2];exact pF hok1 _ _
   have hcnt:=xY p s1 x.go n;rw [hs2]at hcnt;have hc1:s1.count=D.s.count:=by rw [hs1]
   have hend:(yC p r.1 r.2.1 r.2.2).s=if s2.count>s.count then (bD p s2 s.count n).1 else s2:=by
    have e0:eP r.1 { aQ r.1 with pc:=r.2.1}=⟨s1,x.go,n,D.val,false⟩:=by rw [r1,r2,hs1];rfl
    rw [yC,if_neg (by rw [hrs.2.2.2.2];decide),e0];rcases r3 with ⟨k1,k2⟩ | ⟨k1,k2⟩
    ·rw [k1,if_neg (by decide)];have k3:D.s.count=s.count:=k2
     have hle:¬ s2.count>s.count:=by
      rcases hcnt with h1 | h1
      ·omega
      ·rw [h1];show ¬ (0:Int)>s.count;omega
     rw [if_neg hle,← hs2,hrs.2.1];rfl
    ·have k3:D.s.count=s.count+1:=k2;have k4:r.2.2=s.count:=k1
     rw [k4,if_pos (by omega),hrs.2.1];show (bD p (bD p s1 x.go n).1 s.count n).1=_
     rw [hs2];rcases hcnt with h1 | h1
     ·rw [if_pos (by omega)]
     ·rw [if_neg (by rw [h1];show ¬ (0:Int)>s.count;omega),h1,MW]
   refine WP.ent (st':=aK [(3,.int n),(4,.rp 26 (aj p)),(5,.rp 62 (encS s)),(8,.ptr (.s 8 0) 1 0 []),(9,.ptr (.s 9 0) 1 0 []),(12,.rp 137 (kF (lF p s x D.val))),(13,.ptr (.s 13 0) 1 0 [])] [(.s 8 0,.cells ⟨62,1,fun _=>(T 62).zero,0⟩),(.s 9 0,.cells ⟨137,1,fun _=>(T 137).zero,0⟩),(.s 13 0,.cells ⟨62,1,fun _=>encS s2,0⟩)]) ?_ ?_
   ·refine em [] trivial ⟨cq,cq,cq,cq,cq,cq,cq,tt⟩ ⟨obs rfl,obs rfl,obs rfl (hg:=q0 (ah ((aF _ _).trans (congrArg encS hs2)))),tt⟩
   refine rg [] rfl ?_;refine cd rfl (fun h13=>?_) (fun h13=>?_)
   ·have hgt:s2.count>s.count:=by simp [-List.getD_eq_getElem?_getD]at h13;exact h13
    rw [if_pos hgt]at hend;refine rgs [CG.pure (.tup [encS (bD p s2 s.count n).1,.int (bD p s2 s.count n).2])] rfl ?_ ?_
    ·have hq:=Ci p s2 s.count n hok3 hw hws3;exact au
    refine sq (dr [] rfl ?_);refine WP.ret ?_;change Fin ..;rw [hend,hrs.2.2.2.1];exact aJ hT [(.s 8 0,1),(.s 9 0,1)] (ts:=[(8,.rp 62 (encS (bD p s2 s.count n).1)),(9,.rp 137 (kF (lF p s x D.val)))]) (l:=[encS (bD p s2 s.count n).1,kF (lF p s x D.val)]) ⟨sF,sF,tt⟩ ⟨⟨rfl,_,rfl,aZ rfl rfl (by simp [dP,aI]) rfl ((aF _ _).trans rfl) rfl⟩,⟨rfl,_,rfl,aZ rfl rfl (by simp [dP,Id.beq]) rfl (aF _ _) (nP _)⟩,tt⟩ trivial rfl rfl rfl
   ·have hgt:¬ s2.count>s.count:=by simp [-List.getD_eq_getElem?_getD]at h13;omega
    rw [if_neg hgt]at hend;refine sk (sq (dr [] rfl ?_));refine WP.ret ?_;change Fin ..;rw [hend,hrs.2.2.2.1];exact aJ hT [(.s 8 0,1),(.s 9 0,1)] (ts:=[(8,.rp 62 (encS s2)),(9,.rp 137 (kF (lF p s x D.val)))]) (l:=[encS s2,kF (lF p s x D.val)]) ⟨sF,sF,tt⟩ ⟨⟨rfl,_,rfl,aZ rfl rfl (by simp [dP,aI]) rfl (aF _ _) rfl⟩,⟨rfl,_,rfl,aZ rfl rfl (by simp [dP,Id.beq]) rfl (aF _ _) (nP _)⟩,tt⟩ trivial rfl rfl rfl
theorem P6 (ids:List Id) (x:Evt):fB ids (kF x)=true:=Ah (fun i hi=>by
 match i,hi with
 | 0,_ | 1,_ | 2,_ | 3,_ | 4,_ | 5,_ | 6,_ | 8,_=>rfl
 | 7,_=>exact Ah (fun j _=>rfl))
theorem VF {p:ay} {s:PSt} {x:bI} (ho:OkS s) (hv:dw p s):zY p s x↔x.alt∈qc p s x.go:=by
 unfold zY qc;constructor
 ·rintro ⟨h1,h2,h3⟩;have h:dR p s x.go:=⟨ho,hv,h2,h1⟩
  rw [if_pos]
  ·exact h3
  ·simp only [xE,Bool.and_eq_true,decide_eq_true_eq];exact ⟨h1.1,h.lt,h2⟩
 ·intro h;split at h
  ·rename_i hl;have hs:=DK ho hv hl
   exact ⟨hs.pos,hs.live,h⟩
  ·cases h
theorem V7 {p:ay} {s:PSt} {x:bI} {n:Int} (hv:dw p s):doF p s x n=if ¬ (0≤n∧n≤4096)then (st0,Ey,1)else if ¬ zY p s x then (st0,Ey,5)else (doF p s x n):=by
 have h1:¬ vM p s≠0:=by rw [vM,if_neg (by rw [hv.1];decide),if_neg (fun hh=>hh hv)];decide
 unfold doF;rw [if_neg h1];split
 ·rfl
 ·split <;> rfl
theorem YQ (p:ay) (s:PSt) (x:bI) (n:Int) (ho:OkS s) (hv:dw p s) (hw:FT p) (hws:WS s):AC Tryz.prog T bn 106 [aj p,encS s,aV x,.int n] [] (.tup [encS (doF p s x n).1,kF (doF p s x n).2.1,.int (doF p s x n).2.2]) []:=by
 refine aA hT Tryz.func106 rfl rfl (Nat.le_of_ble_eq_true rfl) ?_;refine sg rfl ?_;refine sq (sq ?_);refine WP.ent (st':=aK [(4,.rp 26 (aj p)),(5,.rp 62 (encS s)),(6,.rp 122 (aV x)),(3,.int n),(8,.ptr (.s 8 0) 1 0 []),(9,.ptr (.s 9 0) 1 0 [])] [(.s 8 0,.cells ⟨62,1,fun _=>(T 62).zero,0⟩),(.s 9 0,.cells ⟨137,1,fun _=>(T 137).zero,0⟩)]) (em [(.s 4 0,1),(.s 5 0,1),(.s 6 0,1)] ⟨sF,sF,sF,tt⟩ ⟨rq,rq,rq,cq,cq,cq,tt⟩ ⟨obs rfl,obs rfl,tt⟩) ?_;refine rg [] rfl ?_;refine cd rfl (fun h1=>?_) (fun h1=>?_)
 ·have hn:¬ (0≤n∧n≤4096):=by simp only [bor]at h1;simp at h1;omega
  refine sg rfl ?_;refine WP.ret ?_;change Fin ..;have e:doF p s x n=(st0,Ey,1):=by rw [V7 hv,if_pos hn]
  rw [e];exact wF hT rfl rfl rfl rfl rfl (ah ((aF _ _).trans zeroS)) (ah ((aF _ _).trans zeroE)) rfl
 ·have hn:0≤n∧n≤4096:=by simp only [bor]at h1;simp at h1;omega
  refine sk (sq (sq (rgs [CG.pure (.bool (decide (x.alt∈qc p s x.go)))] rfl ?_ ?_)))
  ·have hq:=WW p s x ho hv;exact au
  refine cd rfl (fun h3=>?_) (fun h3=>?_)
  ·have hx:¬ zY p s x:=by rw [VF ho hv];simpa using h3
   refine sg rfl ?_;refine WP.ret ?_;change Fin ..;have e:doF p s x n=(st0,Ey,5):=by rw [V7 hv,if_neg (fun hh=>hh hn),if_pos hx]
   rw [e];exact wF hT rfl rfl rfl rfl rfl (ah ((aF _ _).trans zeroS)) (ah ((aF _ _).trans zeroE)) rfl
  ·have hx:x.alt∈qc p s x.go:=by simpa using h3
   have hpk:=(VF ho hv).2 hx;have hst:dR p s x.go:=⟨ho,hv,hpk.2.1,hpk.1⟩
   have he:(doF p s x n).2.2=0:=by
    rw [doF,if_neg (by rw [vM,if_neg (by rw [hv.1];decide),if_neg (fun hh=>hh hv)];decide),if_neg (fun hh=>hh hn),if_neg (fun hh=>hh hpk)]
   refine sk (sq (rgs [CG.pure (.tup [encS (doF p s x n).1,kF (doF p s x n).2.1])] rfl ?_ ?_))
   ·have hq:=Ti p s x n hst hpk.2.2 hn hw hws;exact au
   refine sq (dr [] rfl ?_);refine WP.ret ?_;change Fin ..;rw [he];exact wF hT rfl rfl rfl rfl rfl (ah ((aF _ _).trans rfl)) (ah ((aF _ _).trans rfl)) rfl (hno':=nP _) (hok':=P6 _ _)
theorem iQ {α:Type} {l:List α} {i k:Nat} {x d:α}:(l.set i x).getD k d=if i=k∧k<l.length then x else l.getD k d:=by
 simp only [List.getD_eq_getElem?_getD,List.getElem?_set];by_cases h:i=k
 ·subst h;by_cases h2:i<l.length
  ·simp [h2]
  ·simp [h2,List.getElem?_eq_none (Nat.le_of_not_lt h2)]
 ·simp [h]
def RP (F:iL) (l:List Int):Prop := ∀ k:Nat,k<8→F.regs≤k→l.getD k 0=0
theorem JV {F:iL} {l:List Int} (h:RP F l) {r:Int} (hr:0≤r∧r<F.regs) (v:Int):RP F (l.set r.toNat v):=fun k h1 h2=>by
 rw [iQ,if_neg (by omega)];exact h k h1 h2
theorem Oe (F:iL):RP F z8:=fun k h1 h2=>by
 match k,h1 with
 | 0,_ | 1,_ | 2,_ | 3,_ | 4,_ | 5,_ | 6,_ | 7,_=>rfl
theorem Es {p:ay} {g:PGo} (h:uO p g):RP (dN p g) g.regs:=fun k h1 h2=>by
 rcases h.2.2.2.1 k h1 with h3 | h3
 ·exact h3
 ·omega
theorem qH {p:ay} {g:PGo} (hs:g.status=1∨g.status=2) (hf:bQ g.func p.funcs.length) (hp:bQ g.pc (dN p g).code.length) (hw:g.why=0) (hz:RP (dN p g) g.regs):uO p g:=by
 refine ⟨by omega,hf,hp,fun k hk=>?_,fun h=>by omega,fun _=>hw,fun h=>by omega,fun h=>by omega⟩;rcases Int.lt_or_le (k:Int) (dN p g).regs with h | h
 ·exact .inr ⟨h,by omega,by omega⟩
 ·exact .inl (hz k hk h)
theorem Yp (k:Nat):z8.getD k 0=0:=by
 rcases Nat.lt_or_ge k 8 with h | h
 ·exact Oe ⟨0,0,[],[]⟩ k h (by show (0:Int)≤k;omega)
 ·rw [List.getD_eq_getElem?_getD,List.getElem?_eq_none (show z8.length≤k from h)];rfl
theorem y9 {p:ay} {g:PGo} {why:Int} (hf:bQ g.func p.funcs.length) (hp:bQ g.pc (dN p g).code.length) (hm:qN why (insOf p g).op=true):uO p (ou g 4 why) :=
 ⟨by show 1≤(4:Int)∧(4:Int)≤5;decide,hf,hp,fun k _ => .inl (Yp k),fun _=>hm,fun h=>absurd rfl h,fun h=>by exact absurd h (by show ¬ (4:Int)=3;decide),fun h=>by exact absurd h (by show ¬ (4:Int)=5;decide)⟩
theorem UH {p:ay} {g:PGo} (hf:bQ g.func p.funcs.length) (hp:bQ g.pc (dN p g).code.length) (hm:(insOf p g).op=45):uO p (ou g 3 0) :=
 ⟨by show 1≤(3:Int)∧(3:Int)≤5;decide,hf,hp,fun k _ => .inl (Yp k),fun h=>by exact absurd h (by show ¬ (3:Int)=4;decide),fun _=>rfl,fun _=>hm,fun h=>by exact absurd h (by show ¬ (3:Int)=5;decide)⟩
theorem UG {p:ay} {g:PGo} (hs:g.status=1) (h:uO p g) (hl:su (insOf p g).op=true):uO p { g with status:=5}:=by
 obtain ⟨h1,h2,h3,h4,h5,h6,h7,h8⟩:=h;exact ⟨by show 1≤(5:Int)∧(5:Int)≤5;decide,h2,h3,fun k hk=>(h4 k hk).imp id (fun e=>⟨e.1,by show ¬ (5:Int)=3;decide,by show ¬ (5:Int)=4;decide⟩),fun h=>by exact absurd h (by show ¬ (5:Int)=4;decide),fun _=>h6 (by omega),fun h=>by exact absurd h (by show ¬ (5:Int)=3;decide),fun _=>hl⟩
theorem Rx {op a b:Int} (h:(o8 op a b).2=20∨(o8 op a b).2=21) (ho:1≤op∧op≤36):((o8 op a b).2=20→op=19∨op=20)∧((o8 op a b).2=21→25≤op∧op≤27):=by
 unfold o8 at h ⊢;by_cases h1:jJ op=0
 ·rw [if_pos h1]at h;simp at h
 rw [if_neg h1]at h ⊢;by_cases h2:jJ op=1
 ·rw [if_pos h2]at h;simp at h
 rw [if_neg h2]at h ⊢;by_cases h3:op=19∨op=20
 ·rw [if_pos h3];refine ⟨fun _=>h3,fun e=>?_⟩;unfold EI at e
  repeat' split at e
  all_goals simp at e
 rw [if_neg h3]at h ⊢;by_cases h4:25≤op∧op≤27
 ·rw [if_pos h4];refine ⟨fun e=>?_,fun _=>h4⟩;unfold shF at e
  repeat' split at e
  all_goals simp at e
 rw [if_neg h4]at h;simp at h
theorem Xz {p:ay} (hp:qV p) {g:PGo} (h:uO p g) (h1:g.status=1) (h8:Jm g) (hl:su (insOf p g).op=true):uO p (oP g (insOf p g)):=by
 have hF:Dw p (dN p g):=hp.fn _ (by
  have:=h.2.1;unfold bQ at this;rw [dN,List.getD_eq_getElem?_getD,List.getElem?_eq_getElem (show g.func.toNat<p.funcs.length by omega)];exact List.getElem_mem _)
 have hok:=Ap hF (g:=g) ⟨h8,h.2.2.1⟩ hl;have hi:=Gw hF h.2.2.1
 have hz:=Es h;have hw:=h.2.2.2.2.2.1 (by omega)
 have hpc:=hok.1.2;have hlo:1≤(insOf p g).op∧((insOf p g).op≤36∨40≤(insOf p g).op)∧(insOf p g).op≤45:=by generalize (insOf p g).op=o at hl;simp [su]at hl;omega
 have hnum:=hi.num;have hcon:=hi.const;have hmov:=hi.move
 simp only [lq]at hnum hcon hmov;have e0:atF (dN p g) g=insOf p g:=rfl
 rw [e0]at hpc;have e1:(dN p g).code.getD g.pc.toNat qR=insOf p g:=rfl
 rw [e1]at hnum hcon hmov;have hR:∀ (r v:Int) (n:Int),(0≤r∧r<(dN p g).regs)→bQ n (dN p g).code.length→uO p (yI { g with pc:=n} r v):=fun r v n hr hn=>qH (.inl h1) h.2.1 hn hw (JV hz hr v)
 have hP:∀ (n:Int),bQ n (dN p g).code.length→uO p { g with pc:=n}:=fun n hn=>qH (.inl h1) h.2.1 hn hw hz;revert hpc;unfold oP;split
 ·rename_i e;intro hpc;exact hR _ _ _ (hcon (.inl e)) hpc
 split
 ·rename_i e;intro hpc;exact hR _ _ _ (hmov e).1 hpc
 split
 ·intro hpc;exact hP _ hpc
 split
 ·split
  ·intro hpc;exact hP _ hpc
  ·intro hpc;exact hP _ hpc
 split
 ·rename_i e;split
  ·intro _;exact y9 h.2.1 h.2.2.1 (by rw [e];rfl)
  ·intro hpc;exact hP _ hpc
 split
 ·rename_i e;intro _;exact UH h.2.1 h.2.2.1 e
 split
 ·rename_i n40 n41 n42 n43 n44 n45 e;intro _;have:=(Rx (.inl e) (by omega)).1 e
  refine y9 h.2.1 h.2.2.1 ?_;generalize (insOf p g).op=o at this;unfold qN;simp;omega
 split
 ·rename_i n40 n41 n42 n43 n44 n45 _ e;intro _;have:=(Rx (.inr e) (by omega)).2 e
  refine y9 h.2.1 h.2.2.1 ?_;generalize (insOf p g).op=o at this;unfold qN;simp;omega
 ·rename_i n40 n41 n42 n43 n44 n45 _ _;intro hpc;exact hR _ _ _ (hnum (by omega)).1 hpc
structure VX (p:ay) (s:PSt) (g:Int):Prop where
 ok:OkS s
 right:dQ p=true
 cnt:1≤s.count∧s.count≤6
 pos:0≤g∧g<s.count
 var:∀ k,k<8→RZ p s k
 own:∀ k,k<4→Nu p s k
 gos:∀ k:Nat,k<6→(k:Int)≠g→LD p s k
 chs:∀ k,k<4→Vb p s k
 frm:∀ k,k<p.chans.length→(dB s k).offer≠0→(dB s k).frm≠g
 wat:∀ k:Nat,k<6→(k:Int)≠g→Oi p s k
theorem VX.fin {p:ay} {s:PSt} {g:Int} (h:VX p s g) (hf:uO p (goI s g)) (h2:(goI s g).status≠2):dw p s:=by
 have hp:=h.pos;have hc:=h.cnt
 refine ⟨h.right,h.cnt,h.var,h.own,fun k hk=>?_,h.chs,fun k hk=>?_⟩
 ·by_cases e:(k:Int)=g
  ·subst e;exact ⟨fun _=>hf,fun e2=>by omega⟩
  ·exact h.gos k hk e
 ·by_cases e:(k:Int)=g
  ·subst e;exact fun e2=>absurd e2 h2
  ·exact h.wat k hk e
theorem VX.of {p:ay} {s:PSt} {g:Int} (ho:OkS s) (h:dw p s) (hp:0≤g∧g<s.count) (h2:(goI s g).status≠2):VX p s g :=
 ⟨ho,h.1,h.2.1,hp,h.2.2.1,h.2.2.2.1,fun k hk _=>h.2.2.2.2.1 k hk,h.2.2.2.2.2.1,fun k hk h0 e=>by
  have h4:k<4:=by have:=(jg h.1).chans;omega
  have h3:=((h.2.2.2.2.2.1 k h4).1 hk).2.2.2.2.2.2 h0;rw [e]at h3;exact h2 h3.2.2.1,fun k hk _=>h.2.2.2.2.2.2 k hk⟩
theorem lY {p:ay} {s s':PSt} {g:Int} (h:∀ k,k<p.chans.length→(((dB s' k).offer≠0∧(dB s' k).frm=g)↔((dB s k).offer≠0∧(dB s k).frm=g))):∀ c,BF p s' g c=BF p s g c
 | 0=>rfl
 | c+1=>by
  rw [BF,BF,lY h c];congr 1;refine ite_congr (propext ⟨fun e=>⟨e.1,(h c e.1).1 e.2⟩,fun e=>⟨e.1,(h c e.1).2 e.2⟩⟩) (fun _=>rfl) (fun _=>rfl)
theorem wM {p:ay} {s s':PSt} {g c:Int} (hc:s.count≤s'.count) (hg:goI s' g=goI s g) (h:qP p s g c):qP p s' g c:=by
 obtain ⟨h1,h2,h3,h4,h5⟩:=h;unfold qP;rw [hg];exact ⟨h1,by omega,h3,h4,h5⟩
theorem lS {p:ay} {s s':PSt} {c:Nat} (h1:dB s' c=dB s c) (h2:(dB s c).offer≠0→qP p s (dB s c).frm c→qP p s' (dB s c).frm c) (h:vK p s c):vK p s' c:=by
 unfold vK at h ⊢;rw [h1];obtain ⟨a1,a2,a3,a4,a5,a6,a7⟩:=h;exact ⟨a1,a2,a3,a4,a5,a6,fun e=>h2 e (a7 e)⟩
theorem Qq {s:PSt} {g k:Int} {x:PGo} (hg:0≤g) (hk:0≤k) (h:k≠g):goI { s with gos:=s.gos.set g.toNat x} k=goI s k:=by
 show (s.gos.set g.toNat x).getD k.toNat go0=s.gos.getD k.toNat go0;rw [iQ,if_neg (by omega)]
theorem pV {s:PSt} {g:Int} {x:PGo} (hl:g.toNat<s.gos.length):goI { s with gos:=s.gos.set g.toNat x} g=x:=by
 show (s.gos.set g.toNat x).getD g.toNat go0=x;rw [iQ,if_pos ⟨rfl,hl⟩]
theorem VX.eP {p:ay} {s:PSt} {g:Int} (h:VX p s g) {x:PGo} (hx:Jm x):VX p { s with gos:=s.gos.set g.toNat x} g:=by
 have hp:=h.pos;have hg:∀ k:Nat,(k:Int)≠g→(s.gos.set g.toNat x).getD k go0=s.gos.getD k go0:=fun k hk=>by rw [iQ,if_neg (by omega)]
 refine ⟨h.ok.eP hx,h.right,h.cnt,h.pos,h.var,h.own,fun k hk hn=>?_,fun k hk=>⟨fun hl=>?_,(h.chs k hk).2⟩,h.frm,fun k hk hn=>?_⟩
 ·have h1:=h.gos k hk hn;unfold LD at h1 ⊢;rw [show ({ s with gos:=s.gos.set g.toNat x}:PSt).gos.getD k go0=s.gos.getD k go0 from hg k hn];exact h1
 ·refine lS (s:=s) rfl (fun h0 hw=>?_) ((h.chs k hk).1 hl);exact wM (s:=s) (Int.le_refl _) (Qq hp.1 hw.1 (h.frm k hl h0)) hw
 ·have h1:=h.wat k hk hn;unfold Oi at h1 ⊢;rw [show ({ s with gos:=s.gos.set g.toNat x}:PSt).gos.getD k go0=s.gos.getD k go0 from hg k hn];exact fun e=>(lY (s:=s) (fun _ _=>Iff.rfl) 4).trans (h1 e)
theorem VX.setVar {p:ay} {s:PSt} {g:Int} (h:VX p s g) {k v:Int} (hk:bQ k p.vars.length):VX p { s with vars:=s.vars.set k.toNat v} g:=by
 unfold bQ at hk;refine ⟨h.ok.setVar _ _,h.right,h.cnt,h.pos,fun j hj hl=>?_,h.own,h.gos,fun j hj=>⟨fun hl=>?_,(h.chs j hj).2⟩,h.frm,fun j hj hn e=>?_⟩
 ·show (s.vars.set k.toNat v).getD j 0=0;rw [iQ,if_neg (by omega)];exact h.var j hj hl
 ·exact lS (s:=s) rfl (fun h0 hw=>hw) ((h.chs j hj).1 hl)
 ·exact (lY (s:=s) (fun _ _=>Iff.rfl) 4).trans (h.wat j hj hn e)
theorem VX.setOwn {p:ay} {s:PSt} {g:Int} (h:VX p s g) {k v:Int} (hk:0≤k∧k<p.locks) (hv:0≤v∧v≤s.count):VX p { s with owner:=s.owner.set k.toNat v} g:=by
 refine ⟨h.ok.setOwn _ _,h.right,h.cnt,h.pos,h.var,fun j hj=>?_,h.gos,fun j hj=>⟨fun hl=>?_,(h.chs j hj).2⟩,h.frm,fun j hj hn e=>?_⟩
 ·have h1:=h.own j hj;unfold Nu at h1 ⊢;rw [show ({ s with owner:=s.owner.set k.toNat v}:PSt).owner.getD j 0=if k.toNat=j∧j<s.owner.length then v else s.owner.getD j 0 from iQ];split
  ·exact ⟨hv.1,hv.2,fun _=>by omega⟩
  ·exact h1
 ·exact lS (s:=s) rfl (fun h0 hw=>hw) ((h.chs j hj).1 hl)
 ·exact (lY (s:=s) (fun _ _=>Iff.rfl) 4).trans (h.wat j hj hn e)
theorem lG {s:PSt} {c:Int} {k:Nat} {y:iM} (h:k≠c.toNat):dB { s with chans:=s.chans.set c.toNat y} k=dB s k:=by
 show (s.chans.set c.toNat y).getD k ch0=s.chans.getD k ch0;rw [iQ,if_neg (by omega)]
theorem nV {s:PSt} {c:Int} {y:iM} (h:c.toNat<s.chans.length):dB { s with chans:=s.chans.set c.toNat y} c.toNat=y:=by
 show (s.chans.set c.toNat y).getD c.toNat ch0=y;rw [iQ,if_pos ⟨rfl,h⟩]
def JL (p:ay) (y:iM) (c:Nat):Prop:=((0≤y.len∧y.len≤BO p c)∧(0≤y.offer∧y.offer≤3)∧(y.offer≠0→BO p c=0)) ∧
 (∀ k:Nat,k<4→y.len≤k→y.buf.getD k 0=0)∧(y.offer=0→y.frm=0∧y.val=0) ∧
 (y.offer=1→y.closed=false)∧(y.offer=2∨y.offer=3→y.val=0)∧(y.offer=3→y.closed=true)
theorem Wh {p:ay} {s:PSt} {c:Nat} (h:vK p s c):JL p (dB s c) c:=⟨h.1,h.2.1,h.2.2.1,h.2.2.2.1,h.2.2.2.2.1,h.2.2.2.2.2.1⟩
theorem EJ {p:ay} {s:PSt} {c:Nat} {y:iM} (e:dB s c=y) (h:JL p y c) (hw:y.offer≠0→qP p s y.frm c):vK p s c:=by
 subst e;exact ⟨h.1,h.2.1,h.2.2.1,h.2.2.2.1,h.2.2.2.2.1,h.2.2.2.2.2,hw⟩
theorem VX.bM {p:ay} {s:PSt} {g:Int} (h:VX p s g) {c:Int} {y:iM} (hc:bQ c p.chans.length) (hy:Ny y) (hq:JL p y c.toNat) (ho:y.offer≠0→(chI s c).offer≠0) (ho2:(chI s c).offer≠0→y.offer≠0) (hf:y.frm=(chI s c).frm):VX p { s with chans:=s.chans.set c.toNat y} g:=by
 have hc4:=(jg h.right).chans;unfold bQ at hc;have hcl:c.toNat<s.chans.length:=by rw [h.ok.chans];omega
 have hof:∀ k:Nat,(dB { s with chans:=s.chans.set c.toNat y} k).offer≠0→(dB s k).offer≠0∧(dB { s with chans:=s.chans.set c.toNat y} k).frm=(dB s k).frm:=fun k=>by
  by_cases e:k=c.toNat
  ·subst e;rw [nV hcl];exact fun h0=>⟨ho h0,hf⟩
  ·rw [lG e];exact fun h0=>⟨h0,rfl⟩
 have hof2:∀ k:Nat,(dB s k).offer≠0→(dB { s with chans:=s.chans.set c.toNat y} k).offer≠0:=fun k=>by
  by_cases e:k=c.toNat
  ·subst e;rw [nV hcl];exact ho2
  ·rw [lG e];exact id
 refine ⟨h.ok.bM hy,h.right,h.cnt,h.pos,h.var,h.own,h.gos,fun k hk=>⟨fun hl=>?_,fun hl=>?_⟩,fun k hk h0=>?_,fun k hk hn e=>?_⟩
 ·have h1:=(h.chs k hk).1 hl;by_cases e:k=c.toNat
  ·subst e;refine EJ (nV hcl) hq fun h0=>?_;rw [hf];exact h1.2.2.2.2.2.2 (ho h0)
  ·exact lS (s:=s) (lG e) (fun _ hw=>hw) h1
 ·rw [lG (by omega)];exact (h.chs k hk).2 hl
 ·obtain ⟨h1,h2⟩:=hof k h0;rw [h2];exact h.frm k hk h1
 ·refine (lY (s:=s) (fun j hj=>⟨fun a=>?_,fun a=>?_⟩) 4).trans (h.wat k hk hn e)
  ·obtain ⟨h1,h2⟩:=hof j a.1;exact ⟨h1,h2▸a.2⟩
  ·have h1:=hof2 j a.1;obtain ⟨_,h2⟩:=hof j h1;exact ⟨h1,h2.trans a.2⟩
theorem VX.taken {p:ay} {s:PSt} {g c:Int} (h:dR p s g) (hw:(goI s g).status=2) (ea:(insOf p (goI s g)).a=c) {y:iM} (hc:bQ c p.chans.length) (hy:Ny y) (hq:JL p y c.toNat) (h0:y.offer=0):VX p { s with chans:=s.chans.set c.toNat y} g:=by
 have hc4:=h.prog.chans;have hv:=h.valid
 unfold bQ at hc;have hcl:c.toNat<s.chans.length:=by rw [h.ok.chans];omega
 have hcg:∀ k,k<p.chans.length→(dB s k).offer≠0→(dB s k).frm=g→k=c.toNat:=fun k hk ho hf=>by
  have h3:=((hv.2.2.2.2.2.1 k (by omega)).1 hk).2.2.2.2.2.2 ho;rw [hf]at h3;have:=h3.2.2.2.2
  omega
 have hfr:(dB s c.toNat).offer≠0→(dB s c.toNat).frm=g:=fun ho=>by
  obtain ⟨_,k,h1,h2,h3,h4⟩:=h.wait hw;have:k=c.toNat:=by omega
  subst this;exact h4
 refine ⟨h.ok.bM hy,hv.1,hv.2.1,⟨h.pos.1,h.lt⟩,hv.2.2.1,hv.2.2.2.1,fun k hk _=>hv.2.2.2.2.1 k hk,fun k hk=>⟨fun hl=>?_,fun hl=>?_⟩,fun k hk ho hf=>?_,fun k hk hn e=>?_⟩
 ·by_cases e:k=c.toNat
  ·subst e;exact EJ (nV hcl) hq fun e=>absurd h0 e
  ·exact lS (s:=s) (lG e) (fun _ hw=>hw) ((hv.2.2.2.2.2.1 k hk).1 hl)
 ·rw [lG (by omega)];exact (hv.2.2.2.2.2.1 k hk).2 hl
 ·by_cases e:k=c.toNat
  ·subst e;rw [nV hcl]at ho;exact ho h0
  ·rw [lG e]at ho hf;exact e (hcg k hk ho hf)
 ·refine (lY (s:=s) (fun j hj=>?_) 4).trans (hv.2.2.2.2.2.2 k hk e);by_cases ej:j=c.toNat
  ·subst ej;rw [nV hcl];exact ⟨fun a=>absurd h0 a.1,fun a=>absurd ((hfr a.1).symm.trans a.2) (Ne.symm hn)⟩
  ·rw [lG ej]
theorem VX.spawn {p:ay} {s:PSt} {g:Int} (h:VX p s g) (hc:s.count<6) {x:PGo} (hx:Jm x) (hf:uO p x) (h2:x.status≠2):VX p { s with gos:=s.gos.set s.count.toNat x,count:=s.count+1} g:=by
 have hp:=h.pos;have hct:=h.cnt
 have hg:∀ k:Nat,(k:Int)≠s.count→(s.gos.set s.count.toNat x).getD k go0=s.gos.getD k go0:=fun k hk=>by rw [iQ,if_neg (by omega)]
 have hgc:∀ k:Nat,(k:Int)=s.count→(s.gos.set s.count.toNat x).getD k go0=x:=fun k hk=>by rw [iQ,if_pos ⟨by omega,by rw [h.ok.gos];omega⟩]
 have hok:OkS { s with gos:=s.gos.set s.count.toNat x,count:=s.count+1}:=by
  have:=h.ok.eP (k:=s.count.toNat) hx;exact ⟨this.vars,this.owner,this.chans,this.gos,this.ch,this.go⟩
 refine ⟨hok,h.right,⟨by show 1≤s.count+1;omega,by show s.count+1≤6;omega⟩,⟨hp.1,by show g<s.count+1;omega⟩,h.var,fun k hk=>?_,fun k hk hn=>?_,fun k hk=>⟨fun hl=>?_,(h.chs k hk).2⟩,h.frm,fun k hk hn e=>?_⟩
 ·have h1:=h.own k hk;exact ⟨h1.1,Int.le_trans h1.2.1 (by show s.count≤s.count+1;omega),h1.2.2⟩
 ·by_cases e:(k:Int)=s.count
  ·refine ⟨fun _=>?_,fun hle=>absurd hle (by show ¬ s.count+1≤(k:Int);omega)⟩;rw [show ({ s with gos:=s.gos.set s.count.toNat x,count:=s.count+1}:PSt).gos.getD k go0=x from hgc k e];exact hf
  ·have h1:=h.gos k hk hn;unfold LD;rw [show ({ s with gos:=s.gos.set s.count.toNat x,count:=s.count+1}:PSt).gos.getD k go0=s.gos.getD k go0 from hg k e];exact ⟨fun hlt=>h1.1 (by have:(k:Int)<s.count+1:=hlt;omega),fun hle=>h1.2 (by have:s.count+1≤(k:Int):=hle;omega)⟩
 ·refine lS (s:=s) rfl (fun h0 hw=>?_) ((h.chs k hk).1 hl);refine wM (s:=s) (by show s.count≤s.count+1;omega) ?_ hw;have hw1:=hw.1;have hw2:=hw.2.1
  have:=hg (dB s k).frm.toNat (by omega);exact this
 ·have e1:((s.gos.set s.count.toNat x).getD k go0).status=2:=e;by_cases ek:(k:Int)=s.count
  ·rw [hgc k ek]at e1;exact absurd e1 h2
  ·rw [hg k ek]at e1;exact (lY (s:=s) (fun _ _=>Iff.rfl) 4).trans (h.wat k hk hn e1)
theorem VX.offer {p:ay} {s:PSt} {g c:Int} (h:VX p s g) {x:PGo} {y:iM} (hx:Jm x) (hfx:uO p x) (hop:(insOf p x).op=58) (ha:(insOf p x).a=c) (hc:bQ c p.chans.length) (hy:Ny y) (hq:JL p y c.toNat) (ho:(chI s c).offer=0) (hf:y.frm=g) (hn0:y.offer≠0) (h2:x.status=2):dw p { { s with chans:=s.chans.set c.toNat y}with gos:=s.gos.set g.toNat x}:=by
 have hp:=h.pos;have hct:=h.cnt
 have hc4:=(jg h.right).chans;unfold bQ at hc;have hcl:c.toNat<s.chans.length:=by rw [h.ok.chans];omega
 have hgl:g.toNat<s.gos.length:=by rw [h.ok.gos];omega
 have hg:∀ k:Nat,(k:Int)≠g→(s.gos.set g.toNat x).getD k go0=s.gos.getD k go0:=fun k hk=>by rw [iQ,if_neg (by omega)]
 have hgg:∀ k:Nat,(k:Int)=g→(s.gos.set g.toNat x).getD k go0=x:=fun k hk=>by rw [iQ,if_pos ⟨by omega,by omega⟩]
 obtain ⟨s',hs'⟩:∃ s',({ { s with chans:=s.chans.set c.toNat y}with gos:=s.gos.set g.toNat x}:PSt)=s':=⟨_,rfl⟩;have cne:∀ k:Nat,k≠c.toNat→dB s' k=dB s k:=fun k hk=>by rw [← hs'];exact lG (s:=s) hk
 have cat:dB s' c.toNat=y:=by rw [← hs'];exact nV (s:=s) hcl
 have gne:∀ k:Nat,(k:Int)≠g→s'.gos.getD k go0=s.gos.getD k go0:=fun k hk=>by rw [← hs'];exact hg k hk
 have gat:∀ k:Nat,(k:Int)=g→s'.gos.getD k go0=x:=fun k hk=>by rw [← hs'];exact hgg k hk
 have ecount:s'.count=s.count:=by rw [← hs']
 have evars:s'.vars=s.vars:=by rw [← hs']
 have eown:s'.owner=s.owner:=by rw [← hs']
 rw [hs'];have hone:∀ k:Nat,BF p s' g k=if c.toNat<k then 1 else 0:=fun k=>by
  induction k with
  | zero=>rfl
  | succ k ih =>
   rw [BF,ih];by_cases e:k=c.toNat
   ·rw [e,cat,if_neg (by omega),if_pos ⟨by omega,hn0,hf⟩,if_pos (by omega)]
   ·rw [cne k e];have:¬ (k<p.chans.length∧(dB s k).offer≠0∧(dB s k).frm=g):=fun hh=>h.frm k hh.1 hh.2.1 hh.2.2
    rw [if_neg this];by_cases e2:c.toNat<k
    ·rw [if_pos e2,if_pos (by omega)]
    ·rw [if_neg e2,if_neg (by omega)]
 refine ⟨h.right,by rw [ecount];exact hct,fun k hk=>?_,fun k hk=>?_,fun k hk=>?_,fun k hk=>⟨fun hl=>?_,fun hl=>?_⟩,fun k hk e=>?_⟩
 ·unfold RZ;rw [evars];exact h.var k hk
 ·unfold Nu;rw [eown,ecount];exact h.own k hk
 ·unfold LD;rw [ecount];by_cases e:(k:Int)=g
  ·rw [gat k e];exact ⟨fun _=>hfx,fun e2=>by omega⟩
  ·rw [gne k e];exact h.gos k hk e
 ·by_cases e:k=c.toNat
  ·subst e;refine EJ cat hq fun _=>?_;rw [hf];have e1:goI s' g=x:=gat g.toNat (by omega)
   unfold qP;rw [e1,ecount];exact ⟨hp.1,hp.2,h2,hop,by omega⟩
  ·refine lS (s:=s) (cne k e) (fun h0 hw=>wM (s:=s) (by omega) (gne _ ?_) hw) ((h.chs k hk).1 hl);have hw1:=hw.1
   rw [Int.toNat_of_nonneg hw1];exact h.frm k hl h0
 ·rw [cne k (by omega)];exact (h.chs k hk).2 hl
 ·by_cases ek:(k:Int)=g
  ·rw [ek,hone 4,if_pos (by omega)]
  ·rw [gne k ek]at e;refine (lY (s:=s) (fun j hj=>?_) 4).trans (h.wat k hk ek e);by_cases ej:j=c.toNat
   ·subst ej;rw [cat];exact ⟨fun a=>absurd (hf.symm.trans a.2) (Ne.symm ek),fun a=>absurd ho a.1⟩
   ·rw [cne j ej]
structure OW (p:ay) (G:PGo) (m:PM):Prop where
 x:VX p m.s m.g
 st:(aQ m).status=1
 fn:(aQ m).func=G.func
 pc:(aQ m).pc=G.pc
 why:(aQ m).why=0
 z:RP (dN p G) (aQ m).regs
theorem OW.yI {p:ay} {G:PGo} {m:PM} (h:OW p G m) {r v:Int} (hr:r = -1∨lq (dN p G) r):OW p G (bJ m r v):=by
 unfold bJ;rcases hr with e | hr
 ·rw [if_neg (by omega)];exact h
 ·unfold lq at hr;rw [if_pos hr.1];have hp:=h.x.pos;have hct:=h.x.cnt
  have e:aQ (eP m (Go.Ab.yI (aQ m) r v))=Go.Ab.yI (aQ m) r v:=pV (by rw [h.x.ok.gos];omega);refine ⟨h.x.eP (by show (List.set _ _ _).length=8;rw [List.length_set];exact fJ h.x.ok _),?_,?_,?_,?_,?_⟩
  ·rw [e];exact h.st
  ·rw [e];exact h.fn
  ·rw [e];exact h.pc
  ·rw [e];exact h.why
  ·rw [e];exact JV h.z hr v
theorem OW.setV {p:ay} {G:PGo} {m:PM} (h:OW p G m) {k v:Int} (hk:bQ k p.vars.length):OW p G (setVar m k v):=⟨h.x.setVar hk,h.st,h.fn,h.pc,h.why,h.z⟩
theorem OW.setO {p:ay} {G:PGo} {m:PM} (h:OW p G m) {k v:Int} (hk:0≤k∧k<p.locks) (hv:0≤v∧v≤m.s.count):OW p G (uD m k v):=⟨h.x.setOwn hk hv,h.st,h.fn,h.pc,h.why,h.z⟩
theorem OW.val {p:ay} {G:PGo} {m:PM} (h:OW p G m) (v:Int):OW p G (cO m v):=⟨h.x,h.st,h.fn,h.pc,h.why,h.z⟩
theorem OW.setC {p:ay} {G:PGo} {m:PM} (h:OW p G m) {c:Int} {y:iM} (hc:bQ c p.chans.length) (hy:Ny y) (hq:JL p y c.toNat) (ho:y.offer≠0→(chI m.s c).offer≠0) (ho2:(chI m.s c).offer≠0→y.offer≠0) (hf:y.frm=(chI m.s c).frm):OW p G (bM m c y):=⟨h.x.bM hc hy hq ho ho2 hf,h.st,h.fn,h.pc,h.why,h.z⟩
theorem OW.fit {p:ay} {G:PGo} {m:PM} (h:OW p G m) (hf:bQ G.func p.funcs.length) {n:Int} (hn:bQ n (dN p G).code.length):uO p { aQ m with pc:=n}:=by
 have e:dN p { aQ m with pc:=n}=dN p G:=by
  show p.funcs.getD (aQ m).func.toNat mD=p.funcs.getD G.func.toNat mD;rw [h.fn]
 exact qH (.inl h.st) (by show bQ (aQ m).func _;rw [h.fn];exact hf) (by rw [e];exact hn) h.why (by rw [e];exact h.z)
theorem OW.fail {p:ay} {G:PGo} {m:PM} (h:OW p G m) (hf:bQ G.func p.funcs.length) (hn:bQ G.pc (dN p G).code.length) {why:Int} (hm:qN why (insOf p G).op=true):dw p (jZ m why).s:=by
 have hp:=h.x.pos;have hct:=h.x.cnt
 have e:aQ (jZ m why)=ou (aQ m) 4 why:=pV (by rw [h.x.ok.gos];omega);have ef:dN p (aQ m)=dN p G:=by
  show p.funcs.getD (aQ m).func.toNat mD=p.funcs.getD G.func.toNat mD;rw [h.fn]
 have ei:insOf p (aQ m)=insOf p G:=by
  show (dN p (aQ m)).code.getD (aQ m).pc.toNat qR=_;rw [ef,h.pc]
 have hx:VX p (jZ m why).s m.g:=h.x.eP (x:=ou (aQ m) 4 why) rfl;refine hx.fin ?_ ?_
 ·rw [show goI (jZ m why).s m.g=ou (aQ m) 4 why from e];exact y9 (by rw [h.fn];exact hf) (by rw [ef,h.pc];exact hn) (by rw [ei];exact hm)
 ·rw [show goI (jZ m why).s m.g=ou (aQ m) 4 why from e];show ¬ (4:Int)=2
  decide
end Go.Ab
