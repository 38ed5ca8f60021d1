/- Part 20 of a proof of a statement about the given program: an abstract machine over the model, proved sound, and contracts of the functions that the statement reaches; the last part proves the statement, for every input, with no condition. -/
import Derived.Test.YtcfelhfcjdofoaaGreatDoorX17
import Derived.Test.YtcfelhfcjdofoaaGreatDoorX18
import Derived.Test.YtcfelhfcjdofoaaGreatDoorX15
import Derived.Lib.ItoaNum
set_option autoImplicit false
set_option linter.unusedSimpArgs false
set_option linter.unusedVariables false
set_option maxHeartbeats 4000000
set_option maxRecDepth 20000
namespace Go.Ab
open Go.Proofs Go.Sort
structure BT where
 k:_root_.Fin 8
 n:_root_.Fin 8
 w:Bool
 deriving DecidableEq
def bt0:BT:=⟨0,0,false⟩
instance:Inhabited BT:=⟨bt0⟩
def BT.t (x:BT):Tch:=⟨(x.k.val:Nat),(x.n.val:Nat),x.w⟩
def fH (x:BT):AV:=yD x.t
def Oq (x:BT):List Value:=[.int .i64 (x.k.val:Nat),.int .i64 (x.n.val:Nat),.bool x.w]
theorem bY (ids:List Id) (x:BT):fB ids (fH x)=true:=rfl
theorem ZQ (x y:AV):x.put [] y=y:=by cases x <;> rfl
theorem iP (σ:Id→Id) (x:BT):ren σ (fH x)=fH x:=bg (fun q=>by match q with | 0 | 1 | 2 | q+3=>rfl)
theorem VY (x:BT):GZ T bn 5 (fH x)=some (Oq x):=rfl
theorem Zi:aae T bn 134 3 fH Oq where
 len _:=rfl
 one x v hv:=by
  simp [Oq]at hv;rcases hv with rfl | rfl | rfl <;> rfl
 rep I ρ x:=(LU (VY x)).1 I ρ
 uni I ρ x cs h:=(LU (VY x)).2 I ρ cs h
 fits x:=rfl
 pack x:=rfl
 size:=rfl
 pos:=by decide
def JG (x y:BT):Int:=if x.k≠y.k then (x.k.val:Int) - y.k.val else (x.n.val:Int) - y.n.val
theorem Vf (x y:BT):AC Tryz.prog T bn 222 [fH x,fH y] [] (.int (JG x y)) []:=by
 refine aA hT Tryz.func222 rfl rfl (Nat.le_of_ble_eq_true rfl) ?_;refine sg rfl ?_;refine sq (sq (rg [] rfl ?_));refine cd rfl (fun h1=>?_) (fun h1=>?_)
 ·have hne:x.k≠y.k:=by
   intro e;have h1':(((x.k.val:Nat):Int) != ((y.k.val:Nat):Int))=true:=h1
   rw [e]at h1';simp at h1'
  refine sg rfl ?_;refine WP.ret ?_;change Fin ..;refine cZ hT (by rfl) ?_;rw [JG,if_pos hne];show IntKind.i64.wrap (((x.k.val:Nat):Int) - ((y.k.val:Nat):Int))=_
  exact bC (by omega) (by omega)
 ·have he:x.k=y.k:=by
   have h1':(((x.k.val:Nat):Int) != ((y.k.val:Nat):Int))=false:=h1;simp at h1';omega
  refine sk (sq (rg [] rfl ?_));refine WP.ret ?_;change Fin ..;refine cZ hT (by rfl) ?_;rw [JG,if_neg (fun h=>h he)];show IntKind.i64.wrap (((x.n.val:Nat):Int) - ((y.n.val:Nat):Int))=_
  exact bC (by omega) (by omega)
theorem yX (x y:BT):Go.Proofs.ltOf JG x y=decide (x.k.val<y.k.val∨x.k.val=y.k.val∧x.n.val<y.n.val):=by
 unfold Go.Proofs.ltOf;apply decide_eq_decide.2;simp only [JG];grind
theorem Ot:SWO (Go.Proofs.ltOf JG) where
 irrefl x:=by rw [yX];simp
 trans x y z h1 h2:=by rw [yX]at *;simp at *;omega
 ntrans x y z h1 h2:=by rw [yX]at *;simp at *;omega
def xK (l:List BT):Ob:=bK 134 fH default l
def iF (l:List BT):List BT:=iC JG l
theorem Rn (l:List BT) (hl:l.length<4611686018427387904):AC Tryz.prog T bn 221 [.own (.b 0) l.length 0 l.length none,.clo 222 []] [xK l] (.tup []) [xK (iF l)] :=
 SC hT Tryz.laySortA Zi Tryz.isAgg134 Tryz.sizeOf134 Ot (enters_of Tryz.func222 rfl rfl) Vf ⟨_,Tryz.func221,rfl,rfl⟩ l hl
theorem LX (f g:BT):(f==g)=(((f.k.val:Nat):Int)==((g.k.val:Nat):Int)&&(((f.n.val:Nat):Int)==((g.n.val:Nat):Int)&&(f.w==g.w&&true))):=by
 obtain ⟨a,b,c⟩:=f;obtain ⟨a',b',c'⟩:=g;rw [Bool.eq_iff_iff];simp [BT.mk.injEq,_root_.Fin.ext_iff];exact ⟨fun ⟨h1,h2,h3⟩=>⟨by omega,by omega,h3⟩,fun ⟨h1,h2,h3⟩=>⟨by omega,by omega,h3⟩⟩
theorem JF (l:List BT):AC Tryz.prog T bn 223 [.own (.b 0) l.length 0 l.length none] [bK 134 fH bt0 l] (.own (.b 0) l.length 0 (dd bt0 l l.length).length none) [.cells ⟨134,l.length,fun j=>bif Nat.blt j (dd bt0 l l.length).length then fH ((dd bt0 l l.length).getD j bt0)else (T 134).zero,0⟩]:=by
 refine aA hT Tryz.func223 rfl rfl (Nat.le_of_ble_eq_true rfl) ?_;refine WP.ownlen 0 rfl rfl rfl (fun hl=>?_);refine sg rfl ?_;refine sq (sq (rg [] rfl ?_));refine cd rfl (fun h1=>?_) (fun h1=>?_)
 ·refine sg rfl ?_;refine WP.ret ?_;change Fin ..;have e:dd bt0 l l.length=l:=Kw bt0 (fun j h0 hj=>by simp at h1;omega)
  rw [e];exact aJ hT [] (ts:=[(2,.own (.b 0) l.length 0 l.length none)]) trivial ⟨⟨rfl,_,rfl,ah rfl⟩,tt⟩ ⟨⟨fun _ _=>TT (enc:=fH) (d:=bt0) (fun _=>bY _ _) rfl _,.inl ⟨_,rfl,_,_,rfl,Nat.le_refl _,Nat.zero_le _,Nat.zero_le _,fun q hq=>ah (oZ (show q<l.length from hq) _ _).symm⟩⟩,tt⟩ rfl rfl rfl
 ·refine sk (sq (sq (rg [] rfl ?_)));refine bk ?_;refine WP.loop (α:=Nat) (fun i=>aK [(0,.own (.b 0) l.length 0 l.length none),(3,.int i)] [(.b 0,bK 134 fH bt0 l)]) (fun i=>1≤i∧i≤l.length ∧ ∀ j,0<j→j<i→l.getD j bt0≠l.getD (j - 1) bt0) (fun i=>l.length - i) ?_ ?_
  ·refine ⟨1,?_,?_⟩
   ·exact ⟨Nat.le_refl _,by simp at h1;omega,fun j h1 h2=>by omega⟩
   ·refine em [] trivial ⟨cq,cq,tt⟩ ⟨obs rfl,tt⟩
  ·rintro i ⟨h1i,hi,hn⟩;refine sq (sq (rg [] rfl ?_));refine cd rfl (fun h4=>?_) (fun h4=>?_)
   ·have hil:i<l.length:=by simpa using h4
    have e1:=BR h1i (show i<2 ^ 63 by omega);have e2:=bC (n:=(i:Int) - 1) (by omega) (by omega)
    refine sk (sq (bk (sq (drs [] rfl ?_ ?_))))
    ·simp [ak,under,e2];omega
    refine cd rfl (fun h6=>?_) (fun h6=>?_)
    ·have hdup:l.getD i bt0=l.getD (i - 1) bt0:=by
      have e:(l.getD i bt0==l.getD (IntKind.i64.wrap ((i:Int) - 1)).toNat bt0)=true:=(LX _ _).trans h6;rw [e1]at e;simpa using e
     refine sg rfl ?_;refine sq (sq (rg [] rfl ?_));refine bk ?_;refine WP.loop (α:=List BT×Nat×Nat) (fun (⟨c,i2,k⟩:List BT×Nat×Nat)=>aK [(0,.own (.b 0) l.length 0 l.length none),(3,.int i2),(4,.own (.b 0) l.length i (l.length - i) none),(5,.int k)] [(.b 0,.cells ⟨134,l.length,fun j=>fH (c.getD j bt0),0⟩)]) (fun (⟨c,i2,k⟩:List BT×Nat×Nat)=>c.length=l.length∧1≤k∧i+k≤l.length∧c.take i2=dd bt0 l (i+k)∧i2=(dd bt0 l (i+k)).length∧i2<i+k ∧ ∀ j,i+k≤j+1→c.getD j bt0=l.getD j bt0) (fun (⟨c,i2,k⟩:List BT×Nat×Nat)=>l.length - k) ?_ ?_
     ·refine ⟨(l,i,1),?_,?_⟩
      ·have e:=QY bt0 (by omega) hdup;have e':=Q5 bt0 l i (by omega) hn
       refine ⟨rfl,Nat.le_refl _,by omega,by rw [e,e'],by rw [e,e',List.length_take];omega,by omega,fun j hj=>rfl⟩
      ·refine em [] trivial ⟨cq,cq,cq,cq,tt⟩ ⟨obs rfl,tt⟩
     ·rintro ⟨c,i2,k⟩ ⟨hc,hk1,hk,htk,hi2,hi2k,hrest⟩;refine sq (sq (rg [] rfl ?_));refine cd rfl (fun h9=>?_) (fun h9=>?_)
      ·have hkl:i+k<l.length:=by simp at h9;omega
       have e3:=BR hk1 (show k<2 ^ 63 by omega);have e4:=bC (n:=(k:Int) - 1) (by omega) (by omega)
       have r1:=hrest (i+k) (by omega);have r2:=hrest (i+k - 1) (by omega)
       have e5:k - 1+i=i+k - 1:=by omega
       have e6:k+i=i+k:=by omega
       have r1':c.getD (k+i) bt0=l.getD (i+k) bt0:=by rw [e6];exact r1
       refine sk (sq (bk (sq (drs [] rfl ?_ ?_))))
       ·simp [ak,under,e4];omega
       refine cd rfl (fun h11=>?_) (fun h11=>?_)
       ·have hne:l.getD (i+k) bt0≠l.getD (i+k - 1) bt0:=by
         have e:(!(c.getD (k+i) bt0==c.getD ((IntKind.i64.wrap ((k:Int) - 1)).toNat+i) bt0))=true:=(congrArg Bool.not (LX _ _)).trans h11;rw [e3,e5,e6,r1,r2]at e;simpa using e
        refine sq (rgs [] rfl ?_ ?_)
        ·simp [ak,under];omega
        refine rg [] rfl ?_;refine rg [] rfl ?_;refine ⟨(c.set i2 (c.getD (k+i) bt0),i2+1,k+1),?_,?_,?_⟩
        ·have em:=Yc bt0 hne;refine ⟨by simpa using hc,by omega,by omega,?_,by rw [← Nat.add_assoc,em];simp;omega,by omega,fun j hj=>?_⟩
         ·rw [← Nat.add_assoc,em,r1',← htk];have h2:i2<c.length:=by omega
          apply List.ext_getElem?;intro q;rw [List.getElem?_take,List.getElem?_append,List.length_take,Nat.min_eq_left (Nat.le_of_lt h2),List.getElem?_take];rcases Nat.lt_trichotomy q i2 with h | h | h
          ·rw [if_pos (by omega),if_pos h,if_pos h,List.getElem?_set_ne (by omega)]
          ·subst h;simp [h2]
          ·rw [if_neg (by omega),if_neg (by omega)];simp [show q - i2≠0 by omega]
         ·simp only [List.getD_eq_getElem?_getD];rw [List.getElem?_set_ne (by omega)];have:=hrest j (by omega)
          simpa using this
        ·refine em [] trivial ⟨cq,cq,cq,cq,tt⟩ ⟨⟨fun _ _=>rfl,.inl ⟨_,rfl,_,_,rfl,Nat.le_refl _,by first | exact Nat.zero_le _ | omega,by first | exact Nat.zero_le _ | omega,fun q hq=>?_⟩⟩,tt⟩
         ·exact ah (SV (enc:=fH) (d:=bt0) (l:=c) (i:=i2) (x:=c.getD (k+i) bt0) (by omega) (by rw [ZQ];rfl) q)
        ·(try simp only []);first | omega | grind
       ·have heq:l.getD (i+k) bt0=l.getD (i+k - 1) bt0:=by
         have e:(!(c.getD (k+i) bt0==c.getD ((IntKind.i64.wrap ((k:Int) - 1)).toNat+i) bt0))=false:=(congrArg Bool.not (LX _ _)).trans h11;rw [e3,e5,e6,r1,r2]at e;simpa using e
        refine sk (rg [] rfl ?_);refine ⟨(c,i2,k+1),?_,?_,?_⟩
        ·have em:=QY bt0 (l:=l) (k:=i+k) (by omega) heq;exact ⟨hc,by omega,by omega,by rw [← Nat.add_assoc,em];exact htk,by rw [← Nat.add_assoc,em];exact hi2,by omega,fun j hj=>hrest j (by omega)⟩
        ·refine em [] trivial ⟨cq,cq,cq,cq,tt⟩ ⟨obs rfl,tt⟩
        ·(try simp only []);first | omega | grind
      ·have hkl:i+k=l.length:=by simp at h9;omega
       rw [hkl]at htk hi2 hi2k;refine xt (sq (rgs [] rfl ?_ ?_))
       ·simp [ak,under,wV,slB,capEq];omega
       refine sq (rgs [] rfl ?_ ?_)
       ·simp [ak,under,wV,slB,capEq];omega
       refine WP.ret ?_;change Fin ..;refine aJ hT [] (ts:=[(2,.own (.b 0) l.length 0 (dd bt0 l l.length).length none)]) trivial ⟨⟨rfl,_,rfl,ah ?_⟩,tt⟩ ⟨⟨fun _ _=>TT (enc:=fH) (d:=bt0) (fun _=>bY _ _) rfl _,.inl ⟨_,rfl,_,_,rfl,Nat.le_refl _,Nat.zero_le _,Nat.zero_le _,fun q hq=>ah ?_⟩⟩,tt⟩ rfl rfl rfl
       ·rw [← hi2];rfl
       ·simp only [Nat.zero_add];exact Ve bt0 (enc:=fH) (z:=(T 134).zero) htk hi2 (by omega) q hq
    ·have hne:l.getD i bt0≠l.getD (i - 1) bt0:=by
      have e:(l.getD i bt0==l.getD (IntKind.i64.wrap ((i:Int) - 1)).toNat bt0)=false:=(LX _ _).trans h6;rw [e1]at e;simpa using e
     refine sk (rg [] rfl ?_);refine ⟨i+1,?_,?_,?_⟩
     ·refine ⟨by omega,hil,fun j h0 hj=>?_⟩;rcases Nat.lt_or_ge j i with h | h
      ·exact hn j h0 h
      ·obtain rfl:j=i:=by omega
       exact hne
     ·refine em [] trivial ⟨cq,cq,tt⟩ ⟨obs rfl,tt⟩
     ·(try simp only []);first | omega | grind
   ·refine xt (sq (rg [] rfl ?_));refine WP.ret ?_;change Fin ..;have hil:i=l.length:=by simp at h4;omega
    subst hil;have e:dd bt0 l l.length=l:=Kw bt0 hn
    rw [e];exact aJ hT [] (ts:=[(2,.own (.b 0) l.length 0 l.length none)]) trivial ⟨⟨rfl,_,rfl,ah rfl⟩,tt⟩ ⟨⟨fun _ _=>TT (enc:=fH) (d:=bt0) (fun _=>bY _ _) rfl _,.inl ⟨_,rfl,_,_,rfl,Nat.le_refl _,Nat.zero_le _,Nat.zero_le _,fun q hq=>ah (oZ (show q<l.length from hq) _ _).symm⟩⟩,tt⟩ rfl rfl rfl
open Go.Proofs
def bt (k n:Int) (w:Bool):BT:=⟨_root_.Fin.ofNat 8 k.toNat,_root_.Fin.ofNat 8 n.toNat,w⟩
theorem aaA {k n:Int} {w:Bool} (hk:0≤k∧k<8) (hn:0≤n∧n<8):(bt k n w).t=⟨k,n,w⟩:=by
 simp only [bt,BT.t,_root_.Fin.ofNat,Tch.mk.injEq,and_true];refine ⟨?_,?_⟩ <;> omega
def zT (l:List BT):List Ob:=[.cells ⟨195,1,fun _ => .own (.b 1) l.length 0 l.length none,0⟩,bK 134 fH bt0 l]
theorem QV (k n:Int) (w:Bool):(AV.agg 134 3 fun q=>bif Nat.beq q 2 then .bool w else bif Nat.beq q 1 then .int n else bif Nat.beq q 0 then .int k else [AV.int 0,AV.int 0,AV.bool false].getD q .bad)=yD ⟨k,n,w⟩:=bg (fun q=>by match q with | 0 | 1 | 2 | q+3=>rfl)
theorem YS (l:List BT) (k n:Int) (w:Bool) (hl:l.length≤100) (hk:0≤k∧k<8) (hn:0≤n∧n<8):AC Tryz.prog T bn 219 [.int k,.int n,.bool w,.ptr (.b 0) 1 0 []] [.cells ⟨195,1,fun _ => .own (.b 1) l.length 0 l.length none,0⟩,bK 134 fH bt0 l] (.tup []) [.cells ⟨195,1,fun _ => .own (.b 1) (l++[bt k n w]).length 0 (l++[bt k n w]).length none,0⟩,bK 134 fH bt0 (l++[bt k n w])]:=by
 refine aA hT Tryz.func219 rfl rfl (Nat.le_of_ble_eq_true rfl) ?_;refine rgs [] rfl ?_ ?_
 ·have hbt:(T 134).bytes=24:=rfl;simp [ak,under,hbt];omega
 change Fin ..;refine aJ hT [] (ts:=[]) (l:=[]) trivial trivial ⟨obs rfl (hg:=q0 (ah (by rw [bH];rfl))),bU (bY _) rfl rfl (by rw [bH]) rfl rfl (JO (z:=(T 134).zero) rfl (by rw [fH,aaA hk hn];exact QV k n w) (fun q hq=>rfl)),tt⟩ rfl rfl rfl
def jo (l:List Bz):List BT:=l.map fun c=>bt 3 c.chan true
theorem Bl {l:List Bz} {k:Nat} (hk:k<l.length):jo (l.take k)++[bt 3 (l.getD k EK).chan true]=jo (l.take (k+1)):=by
 rw [List.take_add_one,List.getElem?_eq_getElem hk,jo,jo,List.map_append];simp [hk]
def jQ (p:ay) (s:PSt) (g:Int):List BT:=[bt 5 g true] ++
 (if (atI p s g).op=50 then [bt 1 (atI p s g).b false]else if (atI p s g).op=54 then [bt 1 (atI p s g).a false]else if (atI p s g).op=51 then [bt 1 (atI p s g).a true]else
 if (atI p s g).op=52 then [bt 1 (atI p s g).b true]else if (atI p s g).op=53 then [bt 1 (atI p s g).b true]else if (atI p s g).op=55 then [bt 2 (atI p s g).a true]else if (atI p s g).op=56 then [bt 2 (atI p s g).a true]else
 if (atI p s g).op=57 then [bt 2 (atI p s g).b true]else if (atI p s g).op=58 then [bt 3 (atI p s g).a true]else if (atI p s g).op=60 then [bt 3 (atI p s g).a true]else if (atI p s g).op=66 then [bt 3 (atI p s g).a true]else
 if (atI p s g).op=59 then [bt 3 (atI p s g).b true]else if (atI p s g).op=61 then jo (dK p s g).cases else
 if (atI p s g).op=62 then [bt 4 0 true]++(if s.count<6 then [bt 5 s.count true]else [])else
 if (atI p s g).op=63 then [bt 4 0 false]++(if iV s g (bZ (goI s g) (atI p s g).a)then [bt 5 (bZ (goI s g) (atI p s g).a) false]else [])else
 if (atI p s g).op=65 then [bt 6 0 true]else [])
def dO (p:ay) (s:PSt) (g:Int):List BT:=dd bt0 (iF (jQ p s g)) (iF (jQ p s g)).length
theorem dR.rng {p:ay} {s:PSt} {g:Int} (h:dR p s g):((atI p s g).op=50∨(atI p s g).op=52∨(atI p s g).op=53∨(atI p s g).op=57∨(atI p s g).op=59→0≤(atI p s g).b∧(atI p s g).b<8) ∧
 ((atI p s g).op=54∨(atI p s g).op=51∨(atI p s g).op=55∨(atI p s g).op=56∨(atI p s g).op=58∨(atI p s g).op=60∨(atI p s g).op=66→0≤(atI p s g).a∧(atI p s g).a<8):=by
 have hp:=h.prog;have hv:=hp.vars;have hl:=hp.locks;have hc:=hp.chans
 have ha:=h.at
 have hi:(atI p s g).op≠66→MK p (dN p (goI s g)) (atI p s g):=fun e=>by rw [ha.ins e];exact h.ins
 constructor
 ·intro e;have hi:=hi (by omega)
  rcases e with e | e | e | e | e
  ·have:=(hi.load e).2;unfold bQ at this;omega
  ·have:=(hi.bump e).2.1;unfold bQ at this;omega
  ·have:=(hi.cas e).2.1;unfold bQ at this;omega
  ·have:=(hi.try_ e).2;omega
  ·have:=(hi.recv e).2.1;unfold bQ at this;omega
 ·intro e;by_cases e66:(atI p s g).op=66
  ·have:=ha.send (.inr (.inr e66));unfold bQ at this;omega
  have hi:=hi e66;rcases e with e | e | e | e | e | e | e
  ·have:=(hi.store (.inr e)).2;unfold bQ at this;omega
  ·have:=(hi.store (.inl e)).2;unfold bQ at this;omega
  ·have:=hi.lock (.inl e);omega
  ·have:=hi.lock (.inr e);omega
  ·have:=(hi.send e).1;unfold bQ at this;omega
  ·have:=hi.close e;unfold bQ at this;omega
  ·exact absurd e e66
theorem KH {p:ay} {s:PSt} {g:Int} (h:dR p s g):(jQ p s g).length≤5:=by
 have h61:(atI p s g).op=61→(jo (dK p s g).cases).length≤4:=fun e=>by
  rw [jo,List.length_map];exact (h.sel e).2.len.2
 have one:∀ x:BT,[x].length≤4:=fun x=>by simp
 have hb:∀ l:List BT,l.length≤4→([bt 5 g true]++l).length≤5:=fun l h=>by simp;omega
 refine hb _ ?_;have it:∀ (c:Prop) [Decidable c] (a b:List BT),(c→a.length≤4)→b.length≤4→(if c then a else b).length≤4:=fun c _ a b h1 h2=>by by_cases h:c;rw [if_pos h];exact h1 h;rw [if_neg h];exact h2
 refine it _ _ _ (fun _=>one _) <| it _ _ _ (fun _=>one _) <| it _ _ _ (fun _=>one _) <| it _ _ _ (fun _=>one _) <| it _ _ _ (fun _=>one _) <| it _ _ _ (fun _=>one _) <| it _ _ _ (fun _=>one _) <| it _ _ _ (fun _=>one _) <| it _ _ _ (fun _=>one _) <| it _ _ _ (fun _=>one _) <| it _ _ _ (fun _=>one _) <| it _ _ _ (fun _=>one _) <|
  it _ _ _ h61 <| it _ _ _ (fun _=>?_) <| it _ _ _ (fun _=>?_) <| it _ _ _ (fun _=>one _) (by simp)
 ·split <;> simp
 ·split <;> simp
def ZR (l:List BT):List Ob:=[.cells ⟨195,1,fun _ => .own (.s 99 0) l.length 0 l.length none,0⟩,bK 134 fH bt0 l]
theorem zS (l:List BT) (k n:Int) (w:Bool) (hl:l.length≤100) (hk:0≤k∧k<8) (hn:0≤n∧n<8):AC Tryz.prog T bn 219 [.int k,.int n,.bool w,.ptr (.b 0) 1 0 []] (List.map (gW (sig [.s 7 0,.s 99 0] 0)) (ZR l)) (.tup []) (zT (l++[bt k n w])):=by
 have e:List.map (gW (sig [.s 7 0,.s 99 0] 0)) (ZR l)=zT l:=by
  show [_,gW _ (bK 134 fH bt0 l)]=_;rw [gX (iP _)];rfl
 rw [e];exact YS l k n w hl hk hn
theorem NV (l:List BT) (hl:l.length<4611686018427387904):AC Tryz.prog T bn 221 [.own (.b 0) l.length 0 l.length none,.clo 222 []] (List.map (gW (sig [.s 99 0] 0)) [bK 134 fH bt0 l]) (.tup []) [xK (iF l)]:=by
 have e:List.map (gW (sig [.s 99 0] 0)) [bK 134 fH bt0 l]=[xK l]:=by
  show [gW _ (bK 134 fH bt0 l)]=_;rw [gX (iP _)];rfl
 rw [e];exact Rn l hl
def ddO (l:List BT):Ob := .cells ⟨134,l.length,fun j=>bif Nat.blt j (dd bt0 l l.length).length then fH ((dd bt0 l l.length).getD j bt0)else (T 134).zero,0⟩
theorem HY (l:List BT):AC Tryz.prog T bn 223 [.own (.b 0) l.length 0 l.length none] (List.map (gW (sig [.s 99 0] 0)) [bK 134 fH bt0 l]) (.own (.b 0) l.length 0 (dd bt0 l l.length).length none) [ddO l]:=by
 have e:List.map (gW (sig [.s 99 0] 0)) [bK 134 fH bt0 l]=[bK 134 fH bt0 l]:=by
  show [gW _ (bK 134 fH bt0 l)]=_;rw [gX (iP _)]
 rw [e];exact JF l
theorem Zn (ids:List Id) (l:List BT):okO ids (ddO l):=fun i _=>by
 show fB ids (bif _ then _ else _)=true;exact TT (enc:=fH) (d:=bt0) (fun _=>bY _ _) rfl _
theorem Sm (p:ay) (s:PSt) (g:Int) (h:dR p s g):AC Tryz.prog T bn 160 [aj p,encS s,.int g] [] (rowP 134 fH bt0 (dO p s g)) []:=by
 refine aA hT Tryz.func160 rfl rfl (Nat.le_of_ble_eq_true rfl) ?_;have h6:=h.pos
 have hc4:=h.prog.chans;have hc6:=h.valid.2.1
 have hrg:=h.rng;have hat:=h.at
 have ho1:∀ l:List BT,oG [.s 7 0,.s 99 0] [.cells ⟨195,1,fun _ => .own (.s 99 0) l.length 0 l.length none,0⟩,bK 134 fH bt0 l]:=fun l=>⟨fun _ _=>rfl,fun _ _=>rfl,tt⟩;have ho2:∀ l:List BT,oG (bs 2) (zT l):=fun l=>⟨fun _ _=>rfl,fun _ _=>rfl,tt⟩
 have hg0:∀ k n:Int,∀ w:Bool,0≤k∧k<8→0≤n∧n<8→AC Tryz.prog T bn 219 [.int k,.int n,.bool w,.ptr (.b 0) 1 0 []] (List.map (gW (sig [.s 7 0,.s 99 0] 0)) (ZR [bt 5 g true])) (.tup []) (zT ([bt 5 g true]++[bt k n w])):=fun k n w a b=>zS [bt 5 g true] k n w (by simp) a b;refine sg rfl ?_;refine sq ?_;refine WP.ent (st':=aK [(3,.rp 26 (aj p)),(4,.rp 62 (encS s)),(2,.int g)] []) (em [(.s 3 0,1),(.s 4 0,1)] ⟨sF,sF,tt⟩ ⟨rq,rq,cq,tt⟩ trivial) ?_;refine rg [] rfl ?_;refine sg rfl ?_;refine sq ?_;refine WP.ent (st':=aK [(2,.int g),(3,.rp 26 (aj p)),(4,.rp 62 (encS s)),(7,.ptr (.s 7 0) 1 0 []),(8,.clo 219 [.ptr (.s 7 0) 1 0 []])] [(.s 7 0,.cells ⟨195,1,fun _ => .own (.s 99 0) 0 0 0 none,0⟩),(.s 99 0,bK 134 fH bt0 [])]) ?_ ?_
 ·refine em [] trivial ⟨cq,cq,cq,cq,cq,tt⟩ ⟨obs rfl (hg:=q0 eU),⟨fun _ _=>rfl,.inr ⟨rfl,134,_,rfl,by decide⟩⟩,tt⟩
 refine rgs [⟨true,[.s 7 0,.s 99 0],.tup [],zT [bt 5 g true]⟩] rfl ?_ ?_
 ·have hq:=zS [] 5 g true (by simp) (by omega) (by omega);have z0:=ho1 [];have z1:=ho2 [bt 5 g true];exact au
 refine sq ?_;refine WP.ent (st':=aK [(2,.int g),(3,.rp 26 (aj p)),(4,.rp 62 (encS s)),(7,.ptr (.s 7 0) 1 0 []),(8,.clo 219 [.ptr (.s 7 0) 1 0 []])] [(.s 7 0,.cells ⟨195,1,fun _ => .own (.s 99 0) 1 0 1 none,0⟩),(.s 99 0,bK 134 fH bt0 [bt 5 g true])]) ?_ ?_
 ·refine em [] trivial ⟨cq,cq,cq,cq,cq,tt⟩ ⟨obs rfl,bU (bY _) rfl rfl rfl rfl rfl (fun q hq=>iP _ _),tt⟩
 refine rgs [CG.pure (aP (atI p s g))] rfl ?_ ?_
 ·have hq:=Vj p s g h;exact au
 refine WP.seqJ (α:=List BT) (fun l=>aK [(7,.ptr (.s 7 0) 1 0 [])] [(.s 7 0,.cells ⟨195,1,fun _ => .own (.s 99 0) l.length 0 l.length none,0⟩),(.s 99 0,bK 134 fH bt0 l)]) (fun l=>l=jQ p s g) ?_ ?_
 ·refine sq ?_;refine WP.ent (st':=aK [(2,.int g),(3,.rp 26 (aj p)),(4,.rp 62 (encS s)),(7,.ptr (.s 7 0) 1 0 []),(8,.clo 219 [.ptr (.s 7 0) 1 0 []]),(9,.rp 120 (aP (atI p s g)))] [(.s 7 0,.cells ⟨195,1,fun _ => .own (.s 99 0) 1 0 1 none,0⟩),(.s 99 0,bK 134 fH bt0 [bt 5 g true])]) ?_ ?_
  ·refine em [(.s 9 0,1)] ⟨sF,tt⟩ ⟨cq,cq,cq,cq,cq,rq,tt⟩ ⟨obs rfl,bU (bY _) rfl rfl rfl rfl rfl (fun q hq=>rfl),tt⟩
  refine rg [] rfl ?_;refine bk (sq (rg [] rfl ?_));refine cd rfl (fun h6=>?_) (fun h6=>?_)
  ·have e:(atI p s g).op=50:=by simpa using h6
   have hx:=hrg.1 (by omega);refine rgs [⟨true,[.s 7 0,.s 99 0],.tup [],zT ([bt 5 g true]++[bt 1 (atI p s g).b false])⟩] rfl ?_ ?_
   ·have hq:=hg0 1 (atI p s g).b false (by omega) hx;have z0:=ho1 [bt 5 g true];have z1:=ho2 ([bt 5 g true]++[bt 1 (atI p s g).b false]);exact au
   refine ⟨[bt 5 g true]++[bt 1 (atI p s g).b false],?_,?_⟩
   ·simp [jQ,e]
   ·refine em [] trivial ⟨cq,tt⟩ ⟨obs rfl,bU (bY _) rfl rfl rfl rfl rfl (fun q hq=>iP _ _),tt⟩
  ·have e50:(atI p s g).op≠50:=by simpa using h6
   refine sg rfl ?_;refine cd rfl (fun h8=>?_) (fun h8=>?_)
   ·have e:(atI p s g).op=54:=by simpa using h8
    have hx:=hrg.2 (by omega);refine rgs [⟨true,[.s 7 0,.s 99 0],.tup [],zT ([bt 5 g true]++[bt 1 (atI p s g).a false])⟩] rfl ?_ ?_
    ·have hq:=hg0 1 (atI p s g).a false (by omega) hx;have z0:=ho1 [bt 5 g true];have z1:=ho2 ([bt 5 g true]++[bt 1 (atI p s g).a false]);exact au
    refine ⟨[bt 5 g true]++[bt 1 (atI p s g).a false],?_,?_⟩
    ·simp [jQ,e]
    ·refine em [] trivial ⟨cq,tt⟩ ⟨obs rfl,bU (bY _) rfl rfl rfl rfl rfl (fun q hq=>iP _ _),tt⟩
   ·have e54:(atI p s g).op≠54:=by simpa using h8
    refine sg rfl ?_;refine cd rfl (fun h10=>?_) (fun h10=>?_)
    ·have e:(atI p s g).op=51:=by simpa using h10
     have hx:=hrg.2 (by omega);refine rgs [⟨true,[.s 7 0,.s 99 0],.tup [],zT ([bt 5 g true]++[bt 1 (atI p s g).a true])⟩] rfl ?_ ?_
     ·have hq:=hg0 1 (atI p s g).a true (by omega) hx;have z0:=ho1 [bt 5 g true];have z1:=ho2 ([bt 5 g true]++[bt 1 (atI p s g).a true]);exact au
     refine ⟨[bt 5 g true]++[bt 1 (atI p s g).a true],?_,?_⟩
     ·simp [jQ,e]
     ·refine em [] trivial ⟨cq,tt⟩ ⟨obs rfl,bU (bY _) rfl rfl rfl rfl rfl (fun q hq=>iP _ _),tt⟩
    ·have e51:(atI p s g).op≠51:=by simpa using h10
     refine sq (sq (rg [] rfl ?_));refine cd rfl (fun h12=>?_) (fun h12=>?_)
     ·have e:(atI p s g).op=52:=by simpa using h12
      have hx:=hrg.1 (by omega);refine sk ?_;refine cd rfl (fun h12=>?_) (fun h12=>?_)
      ·refine rgs [⟨true,[.s 7 0,.s 99 0],.tup [],zT ([bt 5 g true]++[bt 1 (atI p s g).b true])⟩] rfl ?_ ?_
       ·have hq:=hg0 1 (atI p s g).b true (by omega) hx;have z0:=ho1 [bt 5 g true];have z1:=ho2 ([bt 5 g true]++[bt 1 (atI p s g).b true]);exact au
       refine ⟨[bt 5 g true]++[bt 1 (atI p s g).b true],?_,?_⟩
       ·simp [jQ,e]
       ·refine em [] trivial ⟨cq,tt⟩ ⟨obs rfl,bU (bY _) rfl rfl rfl rfl rfl (fun q hq=>iP _ _),tt⟩
      ·simp_all
     ·have e52:(atI p s g).op≠52:=by simpa using h12
      refine rg [] rfl ?_;refine cd rfl (fun h13=>?_) (fun h13=>?_)
      ·have e:(atI p s g).op=53:=by simpa using h13
       have hx:=hrg.1 (by omega);refine rgs [⟨true,[.s 7 0,.s 99 0],.tup [],zT ([bt 5 g true]++[bt 1 (atI p s g).b true])⟩] rfl ?_ ?_
       ·have hq:=hg0 1 (atI p s g).b true (by omega) hx;have z0:=ho1 [bt 5 g true];have z1:=ho2 ([bt 5 g true]++[bt 1 (atI p s g).b true]);exact au
       refine ⟨[bt 5 g true]++[bt 1 (atI p s g).b true],?_,?_⟩
       ·simp [jQ,e]
       ·refine em [] trivial ⟨cq,tt⟩ ⟨obs rfl,bU (bY _) rfl rfl rfl rfl rfl (fun q hq=>iP _ _),tt⟩
      ·have e53:(atI p s g).op≠53:=by simpa using h13
       refine sq (sq (rg [] rfl ?_));refine cd rfl (fun h15=>?_) (fun h15=>?_)
       ·have e:(atI p s g).op=55:=by simpa using h15
        have hx:=hrg.2 (by omega);refine sk ?_;refine cd rfl (fun h15=>?_) (fun h15=>?_)
        ·refine rgs [⟨true,[.s 7 0,.s 99 0],.tup [],zT ([bt 5 g true]++[bt 2 (atI p s g).a true])⟩] rfl ?_ ?_
         ·have hq:=hg0 2 (atI p s g).a true (by omega) hx;have z0:=ho1 [bt 5 g true];have z1:=ho2 ([bt 5 g true]++[bt 2 (atI p s g).a true]);exact au
         refine ⟨[bt 5 g true]++[bt 2 (atI p s g).a true],?_,?_⟩
         ·simp [jQ,e]
         ·refine em [] trivial ⟨cq,tt⟩ ⟨obs rfl,bU (bY _) rfl rfl rfl rfl rfl (fun q hq=>iP _ _),tt⟩
        ·simp_all
       ·have e55:(atI p s g).op≠55:=by simpa using h15
        refine rg [] rfl ?_;refine cd rfl (fun h16=>?_) (fun h16=>?_)
        ·have e:(atI p s g).op=56:=by simpa using h16
         have hx:=hrg.2 (by omega);refine rgs [⟨true,[.s 7 0,.s 99 0],.tup [],zT ([bt 5 g true]++[bt 2 (atI p s g).a true])⟩] rfl ?_ ?_
         ·have hq:=hg0 2 (atI p s g).a true (by omega) hx;have z0:=ho1 [bt 5 g true];have z1:=ho2 ([bt 5 g true]++[bt 2 (atI p s g).a true]);exact au
         refine ⟨[bt 5 g true]++[bt 2 (atI p s g).a true],?_,?_⟩
         ·simp [jQ,e]
         ·refine em [] trivial ⟨cq,tt⟩ ⟨obs rfl,bU (bY _) rfl rfl rfl rfl rfl (fun q hq=>iP _ _),tt⟩
        ·have e56:(atI p s g).op≠56:=by simpa using h16
         refine sg rfl ?_;refine cd rfl (fun h18=>?_) (fun h18=>?_)
         ·have e:(atI p s g).op=57:=by simpa using h18
          have hx:=hrg.1 (by omega);refine rgs [⟨true,[.s 7 0,.s 99 0],.tup [],zT ([bt 5 g true]++[bt 2 (atI p s g).b true])⟩] rfl ?_ ?_
          ·have hq:=hg0 2 (atI p s g).b true (by omega) hx;have z0:=ho1 [bt 5 g true];have z1:=ho2 ([bt 5 g true]++[bt 2 (atI p s g).b true]);exact au
          refine ⟨[bt 5 g true]++[bt 2 (atI p s g).b true],?_,?_⟩
          ·simp [jQ,e]
          ·refine em [] trivial ⟨cq,tt⟩ ⟨obs rfl,bU (bY _) rfl rfl rfl rfl rfl (fun q hq=>iP _ _),tt⟩
         ·have e57:(atI p s g).op≠57:=by simpa using h18
          refine sq (sq (rg [] rfl ?_));refine cd rfl (fun h20=>?_) (fun h20=>?_)
          ·have e:(atI p s g).op=58:=by simpa using h20
           have hx:=hrg.2 (by omega);refine sk ?_;refine cd rfl (fun h20=>?_) (fun h20=>?_)
           ·refine rgs [⟨true,[.s 7 0,.s 99 0],.tup [],zT ([bt 5 g true]++[bt 3 (atI p s g).a true])⟩] rfl ?_ ?_
            ·have hq:=hg0 3 (atI p s g).a true (by omega) hx;have z0:=ho1 [bt 5 g true];have z1:=ho2 ([bt 5 g true]++[bt 3 (atI p s g).a true]);exact au
            refine ⟨[bt 5 g true]++[bt 3 (atI p s g).a true],?_,?_⟩
            ·simp [jQ,e]
            ·refine em [] trivial ⟨cq,tt⟩ ⟨obs rfl,bU (bY _) rfl rfl rfl rfl rfl (fun q hq=>iP _ _),tt⟩
           ·simp_all
          ·have e58:(atI p s g).op≠58:=by simpa using h20
           refine sg rfl ?_;refine cd rfl (fun h21=>?_) (fun h21=>?_)
           ·have e:(atI p s g).op=60:=by simpa using h21
            have hx:=hrg.2 (by omega);refine sk ?_;refine cd rfl (fun h21=>?_) (fun h21=>?_)
            ·refine rgs [⟨true,[.s 7 0,.s 99 0],.tup [],zT ([bt 5 g true]++[bt 3 (atI p s g).a true])⟩] rfl ?_ ?_
             ·have hq:=hg0 3 (atI p s g).a true (by omega) hx;have z0:=ho1 [bt 5 g true];have z1:=ho2 ([bt 5 g true]++[bt 3 (atI p s g).a true]);exact au
             refine ⟨[bt 5 g true]++[bt 3 (atI p s g).a true],?_,?_⟩
             ·simp [jQ,e]
             ·refine em [] trivial ⟨cq,tt⟩ ⟨obs rfl,bU (bY _) rfl rfl rfl rfl rfl (fun q hq=>iP _ _),tt⟩
            ·simp_all
           ·have e60:(atI p s g).op≠60:=by simpa using h21
            refine rg [] rfl ?_;refine cd rfl (fun h22=>?_) (fun h22=>?_)
            ·have e:(atI p s g).op=66:=by simpa using h22
             have hx:=hrg.2 (by omega);refine rgs [⟨true,[.s 7 0,.s 99 0],.tup [],zT ([bt 5 g true]++[bt 3 (atI p s g).a true])⟩] rfl ?_ ?_
             ·have hq:=hg0 3 (atI p s g).a true (by omega) hx;have z0:=ho1 [bt 5 g true];have z1:=ho2 ([bt 5 g true]++[bt 3 (atI p s g).a true]);exact au
             refine ⟨[bt 5 g true]++[bt 3 (atI p s g).a true],?_,?_⟩
             ·simp [jQ,e]
             ·refine em [] trivial ⟨cq,tt⟩ ⟨obs rfl,bU (bY _) rfl rfl rfl rfl rfl (fun q hq=>iP _ _),tt⟩
            ·have e66:(atI p s g).op≠66:=by simpa using h22
             refine sg rfl ?_;refine cd rfl (fun h24=>?_) (fun h24=>?_)
             ·have e:(atI p s g).op=59:=by simpa using h24
              have hx:=hrg.1 (by omega);refine rgs [⟨true,[.s 7 0,.s 99 0],.tup [],zT ([bt 5 g true]++[bt 3 (atI p s g).b true])⟩] rfl ?_ ?_
              ·have hq:=hg0 3 (atI p s g).b true (by omega) hx;have z0:=ho1 [bt 5 g true];have z1:=ho2 ([bt 5 g true]++[bt 3 (atI p s g).b true]);exact au
              refine ⟨[bt 5 g true]++[bt 3 (atI p s g).b true],?_,?_⟩
              ·simp [jQ,e]
              ·refine em [] trivial ⟨cq,tt⟩ ⟨obs rfl,bU (bY _) rfl rfl rfl rfl rfl (fun q hq=>iP _ _),tt⟩
             ·have e59:(atI p s g).op≠59:=by simpa using h24
              refine sg rfl ?_;refine cd rfl (fun h26=>?_) (fun h26=>?_)
              ·have e:(atI p s g).op=61:=by simpa using h26
               have hse:=h.sel e;have hbn:=hse.1;have hb2:=h.fit.2.1
               have hsl:=hse.2.len;refine sq (drs [] rfl ?_ ?_)
               ·simp only [bQ,dN,goI]at hbn hb2;simp [-List.getD_eq_getElem?_getD,ak,under];omega
               refine bk ?_;refine WP.loop (α:=Nat) (fun k=>aK [(7,.ptr (.s 7 0) 1 0 []),(8,.clo 219 [.ptr (.s 7 0) 1 0 []]),(91,rowP 215 mP EK (dK p s g).cases),(92,.int (dK p s g).cases.length),(93,.int k)] [(.s 7 0,.cells ⟨195,1,fun _ => .own (.s 99 0) ([bt 5 g true]++jo ((dK p s g).cases.take k)).length 0 ([bt 5 g true]++jo ((dK p s g).cases.take k)).length none,0⟩),(.s 99 0,bK 134 fH bt0 ([bt 5 g true]++jo ((dK p s g).cases.take k)))]) (fun k=>k≤(dK p s g).cases.length) (fun k=>(dK p s g).cases.length - k) ?_ ?_
               ·refine ⟨0,?_,?_⟩
                ·exact Nat.zero_le _
                ·refine em [] trivial ⟨cq,cq,cq,cq,cq,tt⟩ ⟨obs rfl,bU (bY _) rfl rfl rfl rfl rfl (fun q hq=>rfl),tt⟩
               ·rintro k hk;refine sg rfl ?_;refine sq ?_;refine cd rfl (fun h28=>?_) (fun h28=>?_)
                ·have hkl:k<(dK p s g).cases.length:=by simp [-List.getD_eq_getElem?_getD]at h28;omega
                 have hch:=(hse.2.case (aC (dK p s g) k) (by unfold aC;rw [List.getD_eq_getElem?_getD,List.getElem?_eq_getElem hkl];exact List.getElem_mem _)).chan;have hsn:([bt 5 g true]++jo ((dK p s g).cases.take k))++[bt 3 (aC (dK p s g) k).chan true]=[bt 5 g true]++jo ((dK p s g).cases.take (k+1)):=by
                  rw [List.append_assoc,← Bl hkl]
                 have hln:([bt 5 g true]++jo ((dK p s g).cases.take k)).length≤100:=by simp [jo];omega
                 refine sk (sq (bk (sq (rgs [] rfl ?_ ?_))))
                 ·simp [-List.getD_eq_getElem?_getD,ak,under];omega
                 refine rgs [⟨true,[.s 7 0,.s 99 0],.tup [],zT (([bt 5 g true]++jo ((dK p s g).cases.take k))++[bt 3 (aC (dK p s g) k).chan true])⟩] rfl ?_ ?_
                 ·unfold bQ at hch;have hq:=zS ([bt 5 g true]++jo ((dK p s g).cases.take k)) 3 (aC (dK p s g) k).chan true hln (by omega) (by omega)
                  have ha1:=ho1 ([bt 5 g true]++jo ((dK p s g).cases.take k));have ha2:=ho2 (([bt 5 g true]++jo ((dK p s g).cases.take k))++[bt 3 (aC (dK p s g) k).chan true])
                  exact au
                 refine rg [] rfl ?_;refine ⟨k+1,?_,?_,?_⟩
                 ·exact hkl
                 ·refine em [] trivial ⟨cq,cq,cq,cq,cq,tt⟩ ⟨obs rfl (hg:=q0 (ah (by rw [← hsn] <;> rfl))),bU (bY _) rfl rfl (by rw [← hsn] <;> rfl) rfl rfl (fun q hq=>by rw [← hsn];exact iP _ _),tt⟩
                 ·(try simp only []);first | omega | grind
                ·have hkl:k=(dK p s g).cases.length:=by simp [-List.getD_eq_getElem?_getD]at h28;omega
                 refine xt ?_;refine ⟨[bt 5 g true]++jo ((dK p s g).cases.take k),?_,?_⟩
                 ·rw [hkl,List.take_length];simp [jQ,e]
                 ·refine em [] trivial ⟨cq,tt⟩ ⟨obs rfl,bU (bY _) rfl rfl rfl rfl rfl (fun q hq=>rfl),tt⟩
              ·have e61:(atI p s g).op≠61:=by simpa using h26
               refine sg rfl ?_;refine cd rfl (fun h32=>?_) (fun h32=>?_)
               ·have e:(atI p s g).op=62:=by simpa using h32
                refine sq (rgs [⟨true,[.s 7 0,.s 99 0],.tup [],zT ([bt 5 g true]++[bt 4 0 true])⟩] rfl ?_ ?_)
                ·have hq:=hg0 4 0 true (by omega) (by omega);have z0:=ho1 [bt 5 g true];have z1:=ho2 ([bt 5 g true]++[bt 4 0 true]);exact au
                refine sg rfl ?_;refine cd rfl (fun h34=>?_) (fun h34=>?_)
                ·have hct:s.count<6:=by simpa using h34
                 refine WP.ent (st':=aK [(4,.rp 62 (encS s)),(7,.ptr (.s 7 0) 1 0 []),(8,.clo 219 [.ptr (.s 7 0) 1 0 []])] [(.s 7 0,.cells ⟨195,1,fun _ => .own (.s 99 0) 2 0 2 none,0⟩),(.s 99 0,bK 134 fH bt0 ([bt 5 g true]++[bt 4 0 true]))]) ?_ ?_
                 ·refine em [] trivial ⟨cq,cq,cq,tt⟩ ⟨obs rfl,bU (bY _) rfl rfl rfl rfl rfl (fun q hq=>iP _ _),tt⟩
                 refine rgs [⟨true,[.s 7 0,.s 99 0],.tup [],zT (([bt 5 g true]++[bt 4 0 true])++[bt 5 s.count true])⟩] rfl ?_ ?_
                 ·have hq:=zS ([bt 5 g true]++[bt 4 0 true]) 5 s.count true (by simp) (by omega) (by omega);have ha1:=ho1 ([bt 5 g true]++[bt 4 0 true])
                  have ha2:=ho2 (([bt 5 g true]++[bt 4 0 true])++[bt 5 s.count true]);exact au
                 refine ⟨([bt 5 g true]++[bt 4 0 true])++[bt 5 s.count true],?_,?_⟩
                 ·simp [jQ,e,hct]
                 ·refine em [] trivial ⟨cq,tt⟩ ⟨obs rfl,bU (bY _) rfl rfl rfl rfl rfl (fun q hq=>iP _ _),tt⟩
                ·have hct:¬ s.count<6:=by simpa using h34
                 refine sk ?_;refine ⟨[bt 5 g true]++[bt 4 0 true],?_,?_⟩
                 ·simp [jQ,e,hct]
                 ·refine em [] trivial ⟨cq,tt⟩ ⟨obs rfl,bU (bY _) rfl rfl rfl rfl rfl (fun q hq=>iP _ _),tt⟩
               ·have e62:(atI p s g).op≠62:=by simpa using h32
                refine sg rfl ?_;refine cd rfl (fun h36=>?_) (fun h36=>?_)
                ·have e:(atI p s g).op=63:=by simpa using h36
                 have hja:=hat.join (.inl e);refine sq (rgs [⟨true,[.s 7 0,.s 99 0],.tup [],zT ([bt 5 g true]++[bt 4 0 false])⟩] rfl ?_ ?_)
                 ·have hq:=hg0 4 0 false (by omega) (by omega);have z0:=ho1 [bt 5 g true];have z1:=ho2 ([bt 5 g true]++[bt 4 0 false]);exact au
                 refine sq (drs [] rfl ?_ ?_)
                 ·simp [-List.getD_eq_getElem?_getD,ak,under];omega
                 refine sq (rgs [CG.pure (.bool (iV s g (bZ (goI s g) (atI p s g).a)))] rfl ?_ ?_)
                 ·have hq:=DI s g (bZ (goI s g) (atI p s g).a);exact au
                 refine cd rfl (fun h39=>?_) (fun h39=>?_)
                 ·have hth:0≤bZ (goI s g) (atI p s g).a∧bZ (goI s g) (atI p s g).a<8:=by simp only [iV,decide_eq_true_eq]at h39;omega
                  refine WP.ent (st':=aK [(12,.int (bZ (goI s g) (atI p s g).a)),(7,.ptr (.s 7 0) 1 0 []),(8,.clo 219 [.ptr (.s 7 0) 1 0 []])] [(.s 7 0,.cells ⟨195,1,fun _ => .own (.s 99 0) 2 0 2 none,0⟩),(.s 99 0,bK 134 fH bt0 ([bt 5 g true]++[bt 4 0 false]))]) ?_ ?_
                  ·refine em [] trivial ⟨cq,cq,cq,tt⟩ ⟨obs rfl,bU (bY _) rfl rfl rfl rfl rfl (fun q hq=>iP _ _),tt⟩
                  refine rgs [⟨true,[.s 7 0,.s 99 0],.tup [],zT (([bt 5 g true]++[bt 4 0 false])++[bt 5 (bZ (goI s g) (atI p s g).a) false])⟩] rfl ?_ ?_
                  ·have ew:IntKind.i64.wrap (bZ (goI s g) (atI p s g).a)=bZ (goI s g) (atI p s g).a:=bC (by omega) (by omega);have hq:=zS ([bt 5 g true]++[bt 4 0 false]) 5 (bZ (goI s g) (atI p s g).a) false (by simp) (by omega) (by omega)
                   have ha1:=ho1 ([bt 5 g true]++[bt 4 0 false]);have ha2:=ho2 (([bt 5 g true]++[bt 4 0 false])++[bt 5 (bZ (goI s g) (atI p s g).a) false])
                   simp only [ew];exact au
                  refine ⟨([bt 5 g true]++[bt 4 0 false])++[bt 5 (bZ (goI s g) (atI p s g).a) false],?_,?_⟩
                  ·simp [-List.getD_eq_getElem?_getD,jQ,e,h39]
                  ·refine em [] trivial ⟨cq,tt⟩ ⟨obs rfl,bU (bY _) rfl rfl rfl rfl rfl (fun q hq=>iP _ _),tt⟩
                 ·refine sk ?_;refine ⟨[bt 5 g true]++[bt 4 0 false],?_,?_⟩
                  ·simp [-List.getD_eq_getElem?_getD,jQ,e,h39]
                  ·refine em [] trivial ⟨cq,tt⟩ ⟨obs rfl,bU (bY _) rfl rfl rfl rfl rfl (fun q hq=>iP _ _),tt⟩
                ·have e63:(atI p s g).op≠63:=by simpa using h36
                 refine sg rfl ?_;refine cd rfl (fun h41=>?_) (fun h41=>?_)
                 ·have e:(atI p s g).op=65:=by simpa using h41
                  refine rgs [⟨true,[.s 7 0,.s 99 0],.tup [],zT ([bt 5 g true]++[bt 6 0 true])⟩] rfl ?_ ?_
                  ·have hq:=hg0 6 0 true (by omega) (by omega);have z0:=ho1 [bt 5 g true];have z1:=ho2 ([bt 5 g true]++[bt 6 0 true]);exact au
                  refine ⟨[bt 5 g true]++[bt 6 0 true],?_,?_⟩
                  ·simp [jQ,e]
                  ·refine em [] trivial ⟨cq,tt⟩ ⟨obs rfl,bU (bY _) rfl rfl rfl rfl rfl (fun q hq=>iP _ _),tt⟩
                 ·have e65:(atI p s g).op≠65:=by simpa using h41
                  refine sk ?_;refine ⟨[bt 5 g true],?_,?_⟩
                  ·simp [jQ,e50,e54,e51,e52,e53,e55,e56,e57,e58,e60,e66,e59,e61,e62,e63,e65]
                  ·refine em [] trivial ⟨cq,tt⟩ ⟨obs rfl,bU (bY _) rfl rfl rfl rfl rfl (fun q hq=>rfl),tt⟩
 ·rintro l hl;refine sq ?_;have hrl:l.length≤5:=by rw [hl];exact KH h
  refine rgs [⟨true,[.s 99 0],.tup [],[xK (iF l)]⟩] rfl ?_ ?_
  ·have hq:=NV l (by omega);have hk1:oG [.s 99 0] [bK 134 fH bt0 l]:=⟨fun _ _=>rfl,tt⟩
   have hk2:oG (bs 1) [xK (iF l)]:=⟨fun _ _=>rfl,tt⟩;exact au
  refine sq ?_;have hsl:(iF l).length=l.length:=pz Ot l
  refine WP.ent (st':=aK [(7,.ptr (.s 7 0) 1 0 [])] [(.s 7 0,.cells ⟨195,1,fun _ => .own (.s 99 0) (iF l).length 0 (iF l).length none,0⟩),(.s 99 0,bK 134 fH bt0 (iF l))]) ?_ ?_
  ·refine em [] trivial ⟨cq,tt⟩ ⟨obs rfl (hg:=q0 (ah (by rw [hsl]))),bU (bY _) rfl rfl rfl rfl rfl (fun q hq=>iP _ _),tt⟩
  refine rgs [⟨true,[.s 99 0],.own (.b 0) (iF l).length 0 (dd bt0 (iF l) (iF l).length).length none,[ddO (iF l)]⟩] rfl ?_ ?_
  ·have hq:=HY (iF l);have hk1:oG [.s 99 0] [bK 134 fH bt0 (iF l)]:=⟨fun _ _=>rfl,tt⟩
   have hk2:oG (bs 1) [ddO (iF l)]:=⟨Zn _ _,tt⟩;exact au
  refine WP.ret ?_;change Fin ..;have hdl:=QZ bt0 (iF l) (iF l).length
  refine aJ hT [(.s 99 0,(iF l).length)] (ts:=[(6,rowP 134 fH bt0 (dO p s g))]) (l:=[rowP 134 fH bt0 (dO p s g)]) ⟨⟨_,rfl,Nat.le_refl _⟩,tt⟩ ⟨⟨rfl,_,rfl,?_⟩,tt⟩ trivial rfl rfl rfl;rw [dO,← hl];refine fG rfl rfl rfl (fun h=>by cases h) (by simp [dP,aI];exact hdl) (fun q hq=>?_);show eG (ren _ (bif Nat.blt (0+q) _ then _ else _))=true∧AEq (ren _ (bif Nat.blt (0+q) _ then _ else _)) _
  rw [Nat.zero_add,oZ hq,iP];exact ⟨rfl,AEq.refl _⟩
structure bI where
 go:Int
 alt:Int
 deriving DecidableEq
def dX:bI:=⟨0,0⟩
def aV (x:bI):AV:=cu 122 [.int x.go,.int x.alt]
theorem kN (ids:List Id) (x:bI):fB ids (aV x)=true:=rfl
def vM (p:ay) (s:PSt):Int:=if dQ p=false then 3 else if ¬ dw p s then 4 else 0
theorem MB (p:ay) (s:PSt) (ho:OkS s):AC Tryz.prog T bn 114 [aj p,encS s] [] (.int (vM p s)) []:=by
 refine aA hT Tryz.func114 rfl rfl (Nat.le_of_ble_eq_true rfl) ?_;refine sg rfl ?_;refine sq (sq ?_);refine WP.ent (st':=aK [(2,.rp 26 (aj p)),(3,.rp 62 (encS s))] []) (em [(.s 2 0,1),(.s 3 0,1)] ⟨sF,sF,tt⟩ ⟨rq,rq,tt⟩ trivial) ?_;refine rgs [CG.pure (yE p)] rfl ?_ ?_
 ·have hq:=zZ p;exact au
 refine sg rfl ?_;refine cd rfl (fun h2=>?_) (fun h2=>?_)
 ·have hr:dQ p=false:=by simp at h2;simp [dQ];exact h2
  refine sg rfl ?_;exact WP.ret (cZ hT (by rfl) (by rw [vM,if_pos hr]))
 ·have hr:¬ dQ p=false:=by simp at h2;simp [dQ];exact h2
  refine sk (sq (sq (rgs [CG.pure (.bool (decide (dw p s)))] rfl ?_ ?_)))
  ·have hq:=JZ p s ho;exact au
  refine cd rfl (fun h4=>?_) (fun h4=>?_)
  ·have hv:¬ dw p s:=by simpa using h4
   refine sg rfl ?_;exact WP.ret (cZ hT (by rfl) (by rw [vM,if_neg hr,if_pos hv]))
  ·have hv:¬ ¬ dw p s:=by simpa using h4
   refine sk (sq (rg [] rfl ?_));exact WP.ret (cZ hT (by rfl) (by rw [vM,if_neg hr,if_neg hv]))
theorem aam {p:ay} {s:PSt} (h:vM p s=0):dw p s:=by
 unfold vM at h;split at h
 ·cases h
 ·split at h
  ·cases h
  ·rename_i h1 h2;simpa using h2
def yJ (p:ay) (s:PSt) (g:Int):List bI:=(kU p s g).map fun a=>⟨g,a⟩
def aN (p:ay) (s:PSt):List bI:=if vM p s=0 then (iG s).flatMap (yJ p s)else []
theorem zF {p:ay} {s:PSt} (ho:OkS s) (hv:dw p s) {g:Int} (h:g∈iG s):dR p s g:=by
 obtain ⟨j,h1,h2,h3⟩:=xC.1 h;exact ⟨ho,hv,by rw [goI,h2];exact h3,by omega⟩
def qp (p:ay) (s:PSt) (i j:Nat):List bI:=((iG s).take i).flatMap (yJ p s)++(yJ p s ((iG s).getD i 0)).take j
theorem QF {α β:Type} {f:α→List β} {n:Nat}:∀ {l:List α},(∀ x∈l,(f x).length≤n)→(l.flatMap f).length≤n*l.length
 | [],_=>by simp
 | x::r,h=>by
  have h1:=h x (by simp);have h2:=QF (l:=r) (fun y hy=>h y (by simp [hy]))
  rw [List.flatMap_cons,List.length_append,List.length_cons,Nat.mul_succ];omega
theorem Pn {p:ay} {s:PSt} (ho:OkS s) (hv:dw p s) (i j:Nat):(qp p s i j).length≤30+j:=by
 have h1:(((iG s).take i).flatMap (yJ p s)).length≤5*((iG s).take i).length:=QF fun x hx=>by
  rw [yJ,List.length_map];exact ES (zF ho hv (List.mem_of_mem_take hx))
 have h2:(iG s).length≤6:=tX s 6;have h3:((iG s).take i).length≤(iG s).length:=by rw [List.length_take];omega
 rw [qp,List.length_append,List.length_take];omega
theorem Xf {p:ay} {s:PSt} {x:Int} {j:Nat} (hj:j<(kU p s x).length):(yJ p s x)[j]? = some ⟨x,(kU p s x).getD j 0⟩:=by simp [yJ,hj]
theorem Nj {p:ay} {s:PSt} {i j:Nat} (hj:j<(kU p s ((iG s).getD i 0)).length):qp p s i j++[⟨(iG s).getD i 0,(kU p s ((iG s).getD i 0)).getD j 0⟩]=qp p s i (j+1):=by
 rw [qp,qp,List.append_assoc,List.take_add_one (l:=yJ p s ((iG s).getD i 0)),Xf hj];rfl
theorem Nk {p:ay} {s:PSt} {i:Nat} (hi:i<(iG s).length):qp p s i (kU p s ((iG s).getD i 0)).length=qp p s (i+1) 0:=by
 rw [qp,qp,List.take_of_length_le (l:=yJ p s ((iG s).getD i 0)) (by simp [yJ]),List.take_add_one (l:=iG s),List.getElem?_eq_getElem hi,List.flatMap_append];simp [hi]
abbrev dS (l:List bI):AV:=rowP 122 aV dX l
theorem FV (p:ay) (s:PSt) (ho:OkS s):AC Tryz.prog T bn 69 [aj p,encS s] [] (.tup [dS (aN p s),.int (vM p s)]) []:=by
 refine aA hT Tryz.func69 rfl rfl (Nat.le_of_ble_eq_true rfl) ?_;refine sg rfl ?_;refine sq (sq ?_);refine WP.ent (st':=aK [(2,.rp 26 (aj p)),(3,.rp 62 (encS s))] []) (em [(.s 2 0,1),(.s 3 0,1)] ⟨sF,sF,tt⟩ ⟨rq,rq,tt⟩ trivial) ?_;refine rgs [CG.pure (.int (vM p s))] rfl ?_ ?_
 ·have hq:=MB p s ho;exact au
 refine sg rfl ?_;refine cd rfl (fun h2=>?_) (fun h2=>?_)
 ·have ha:vM p s≠0:=by simpa using h2
  refine sg rfl ?_;refine WP.ret ?_;change Fin ..;refine aJ hT [] (ts:=[(4,dS (aN p s)),(5,.int (vM p s))]) (l:=[dS (aN p s),.int (vM p s)]) trivial ⟨⟨rfl,_,rfl,?_⟩,cq,tt⟩ trivial rfl rfl rfl;rw [aN,if_neg ha];exact dJ (by decide)
 ·have ha:vM p s=0:=by simpa using h2
  have hv:=aam ha;refine sk (sq (rg [] rfl ?_));refine sq (sq (rgs [CG.pure (ints false (iG s))] rfl ?_ ?_))
  ·have hq:=XB s;exact au
  refine bk ?_;refine WP.loop (α:=Nat) (fun i=>aK [(2,.rp 26 (aj p)),(3,.rp 62 (encS s)),(7,.own (.s 39 0) (qp p s i 0).length 0 (qp p s i 0).length none),(19,ints false (iG s)),(20,.int (iG s).length),(21,.int i)] [(.s 39 0,bK 122 aV dX (qp p s i 0))]) (fun i=>i≤(iG s).length) (fun i=>(iG s).length - i) ?_ ?_
  ·refine ⟨0,?_,?_⟩
   ·exact Nat.zero_le _
   ·refine em [] trivial ⟨cq,cq,⟨rfl,_,rfl,eU⟩,cq,cq,cq,tt⟩ ⟨⟨fun _ _=>rfl,.inr ⟨rfl,122,_,rfl,by decide⟩⟩,tt⟩
  ·rintro i hi;refine sg rfl ?_;refine sq ?_;refine cd rfl (fun h6=>?_) (fun h6=>?_)
   ·have hil:i<(iG s).length:=by simp [-List.getD_eq_getElem?_getD]at h6;omega
    have hst:dR p s ((iG s).getD i 0):=zF ho hv (by rw [List.getD_eq_getElem?_getD,List.getElem?_eq_getElem hil];exact List.getElem_mem _);have hl6:(iG s).length≤6:=tX s 6
    refine sk (sq (bk (sq (rgs [] rfl ?_ ?_))))
    ·simp [-List.getD_eq_getElem?_getD,ak,under];omega
    refine sq (rgs [CG.pure (ints false (kU p s ((iG s).getD i 0)))] rfl ?_ ?_)
    ·have hq:=Ry p s _ hst;exact au
    refine bk ?_;refine WP.loop (α:=Nat) (fun j=>aK [(2,.rp 26 (aj p)),(3,.rp 62 (encS s)),(7,.own (.s 39 0) (qp p s i j).length 0 (qp p s i j).length none),(9,.int ((iG s).getD i 0)),(19,ints false (iG s)),(20,.int (iG s).length),(21,.int i),(28,ints false (kU p s ((iG s).getD i 0))),(29,.int (kU p s ((iG s).getD i 0)).length),(30,.int j)] [(.s 39 0,bK 122 aV dX (qp p s i j))]) (fun j=>j≤(kU p s ((iG s).getD i 0)).length) (fun j=>(kU p s ((iG s).getD i 0)).length - j) ?_ ?_
    ·refine ⟨0,?_,?_⟩
     ·exact Nat.zero_le _
     ·refine em [] trivial ⟨cq,cq,cq,cq,cq,cq,cq,cq,cq,cq,tt⟩ ⟨bU (kN _) rfl rfl rfl rfl rfl (fun q hq=>rfl),tt⟩
    ·rintro j hj;refine sg rfl ?_;refine sq ?_;refine cd rfl (fun h9=>?_) (fun h9=>?_)
     ·have hjl:j<(kU p s ((iG s).getD i 0)).length:=by simp [-List.getD_eq_getElem?_getD]at h9;omega
      have hl5:=ES hst;have hrl:=Pn ho hv i j
      refine sk (sq (bk (sq (rgs [] rfl ?_ ?_))))
      ·simp [-List.getD_eq_getElem?_getD,ak,under];omega
      refine rgs [] rfl ?_ ?_
      ·have hbt:(T 122).bytes=16:=rfl;simp [ak,under,hbt];omega
      refine rg [] rfl ?_;have hsn:=Nj hjl
      refine ⟨j+1,?_,?_,?_⟩
      ·exact hjl
      ·refine em [] trivial ⟨cq,cq,⟨rfl,_,rfl,ah (by rw [← hsn,bH])⟩,cq,cq,cq,cq,cq,cq,cq,tt⟩ ⟨bU (kN _) rfl rfl (by rw [← hsn,bH]) rfl rfl (by rw [← hsn];exact JO (z:=(T 122).zero) rfl (bg (fun q=>by match q with | 0 | 1 | q+2=>rfl)) (fun q hq=>rfl)),tt⟩
      ·(try simp only []);first | omega | grind
     ·have hjl:j=(kU p s ((iG s).getD i 0)).length:=by simp [-List.getD_eq_getElem?_getD]at h9;omega
      subst hjl;refine xt (rg [] rfl ?_);have hnx:=Nk (p:=p) hil
      refine ⟨i+1,?_,?_,?_⟩
      ·exact hil
      ·refine em [] trivial ⟨cq,cq,⟨rfl,_,rfl,ah (by rw [hnx])⟩,cq,cq,cq,tt⟩ ⟨bU (kN _) rfl rfl (by rw [hnx]) rfl rfl (fun q hq=>by rw [← hnx]),tt⟩
      ·(try simp only []);first | omega | grind
   ·have hil:i=(iG s).length:=by simp [-List.getD_eq_getElem?_getD]at h6;omega
    have e:qp p s i 0=aN p s:=by rw [qp,hil,List.take_length,List.take_zero,List.append_nil,aN,if_pos ha]
    refine xt (sq (rg [] rfl ?_));refine WP.ret ?_;change Fin ..;refine aJ hT [(.s 39 0,(qp p s i 0).length)] (ts:=[(4,dS (aN p s)),(5,.int (vM p s))]) (l:=[dS (aN p s),.int (vM p s)]) ⟨⟨_,rfl,Nat.le_refl _⟩,tt⟩ ⟨⟨rfl,_,rfl,?_⟩,⟨rfl,_,rfl,ah (by rw [ha])⟩,tt⟩ trivial rfl rfl rfl;rw [← e];exact fG rfl rfl rfl (fun h=>by cases h) (by simp [dP,aI]) (fun q hq=>by rw [Nat.zero_add];exact ⟨rfl,AEq.refl _⟩)
structure PM where
 s:PSt
 g:Int
 fuel:Int
 val:Int
 over:Bool
def je (p:ay) (m:PM):AV:=cu 263 [aj p,encS m.s,.int m.g,.int m.fuel,.int m.val,.bool m.over]
abbrev mO (p:ay) (m:PM):Ob := .cells ⟨263,1,fun _=>je p m,0⟩
theorem sZ (σ:Id→Id) (p:ay):ren σ (aj p)=aj p:=bg (fun q=>by match q with | 0 | 1 | 2 | 3 | q+4=>rfl)
theorem YK (σ:Id→Id) (g:PGo):ren σ (bP g)=bP g:=bg (fun q=>by match q with | 0 | 1 | 2 | 3 | 4 | q+5=>rfl)
theorem YL (σ:Id→Id) (c:iM):ren σ (dW c)=dW c:=bg (fun q=>by match q with | 0 | 1 | 2 | 3 | 4 | 5 | q+6=>rfl)
theorem vY (σ:Id→Id) (s:PSt):ren σ (encS s)=encS s:=bg (fun q=>by
 match q with
 | 0 | 1 | 4 | q+5=>rfl
 | 2=>exact bg fun i=>YL σ _
 | 3=>exact bg fun i=>YK σ _)
theorem iw (σ:Id→Id) (p:ay) (m:PM):ren σ (je p m)=je p m:=bg (fun q=>by
 match q with
 | 0=>exact sZ σ p
 | 1=>exact vY σ _
 | 2 | 3 | 4 | 5 | q+6=>rfl)
theorem lI (σ:Id→Id) (p:ay) (m:PM):List.map (gW σ) [mO p m]=[mO p m]:=by
 show [Ob.cells ⟨_,_,fun _=>ren σ (je p m),_⟩]=_;rw [iw]
theorem bF (ids:List Id) (p:ay) (m:PM):oG ids [mO p m]:=⟨fun _ _=>rfl,tt⟩
theorem zU {p:ay} {m:PM} {q:List Nat} {y:AV} {s:PSt} (e:(encS m.s).put q y=encS s):(je p m).put (1::q) y=je p { m with s:=s}:=(bG (Nat.le_of_ble_eq_true rfl)).trans (congrArg (fun z=>cu 263 [aj p,z,.int m.g,.int m.fuel,.int m.val,.bool m.over]) e)
theorem jm (p:ay) (m:PM) (x:Int):(je p m).put [4] (.int x)=je p { m with val:=x}:=bG (Nat.le_of_ble_eq_true rfl)
theorem vZ (p:ay) (m:PM) (x:Bool):(je p m).put [5] (.bool x)=je p { m with over:=x}:=bG (Nat.le_of_ble_eq_true rfl)
abbrev aQ (m:PM):PGo:=goI m.s m.g
abbrev eP (m:PM) (x:PGo):PM:={ m with s:={ m.s with gos:=m.s.gos.set m.g.toNat x} }
abbrev bM (m:PM) (c:Int) (x:iM):PM:={ m with s:={ m.s with chans:=m.s.chans.set c.toNat x} }
structure OkM (m:PM):Prop where
 s:OkS m.s
 g:0≤m.g∧m.g<6
theorem OkS.eP {s:PSt} (h:OkS s) {k:Nat} {x:PGo} (hx:Jm x):OkS { s with gos:=s.gos.set k x}:=⟨h.vars,h.owner,h.chans,by show (s.gos.set k x).length=6;rw [List.length_set];exact h.gos,h.ch,fun g hg=>by
 rcases List.mem_or_eq_of_mem_set hg with h1 | h1
 ·exact h.go g h1
 ·rw [h1];exact hx⟩
theorem OkS.bM {s:PSt} (h:OkS s) {k:Nat} {x:iM} (hx:Ny x):OkS { s with chans:=s.chans.set k x}:=⟨h.vars,h.owner,by show (s.chans.set k x).length=4;rw [List.length_set];exact h.chans,h.gos,fun c hc=>by
 rcases List.mem_or_eq_of_mem_set hc with h1 | h1
 ·exact h.ch c h1
 ·rw [h1];exact hx,h.go⟩
theorem OkS.setVar {s:PSt} (h:OkS s) (k:Nat) (x:Int):OkS { s with vars:=s.vars.set k x}:=⟨by show (s.vars.set k x).length=8;rw [List.length_set];exact h.vars,h.owner,h.chans,h.gos,h.ch,h.go⟩
theorem OkS.setOwn {s:PSt} (h:OkS s) (k:Nat) (x:Int):OkS { s with owner:=s.owner.set k x}:=⟨h.vars,by show (s.owner.set k x).length=4;rw [List.length_set];exact h.owner,h.chans,h.gos,h.ch,h.go⟩
theorem KJ {p:ay} {m:PM} {q:List Nat} {y:AV} {x:PGo} (h:m.g.toNat<m.s.gos.length) (e:(bP (aQ m)).put q y=bP x):(je p m).put (1::3::m.g.toNat::q) y=je p (eP m x):=zU (lu h e)
theorem lC {p:ay} {m:PM} {c:Int} {q:List Nat} {y:AV} {x:iM} (h:c.toNat<m.s.chans.length) (e:(dW (chI m.s c)).put q y=dW x):(je p m).put (1::2::c.toNat::q) y=je p (bM m c x):=zU (rO h e)
theorem zV {p:ay} {m:PM} {q:List Nat} {y:AV} {x:PGo} (h:OkM m) (e:(bP (aQ m)).put q y=bP x):(je p m).put (1::3::m.g.toNat::q) y=je p (eP m x):=KJ (by rw [h.s.gos];have:=h.g;omega) e
theorem Xe {p:ay} {m:PM} {c:Int} {q:List Nat} {y:AV} {x:iM} (h:OkM m) (hc:0≤c∧c<4) (e:(dW (chI m.s c)).put q y=dW x):(je p m).put (1::2::c.toNat::q) y=je p (bM m c x):=lC (by rw [h.s.chans];omega) e
theorem iT {s:PSt} {c:Int} {x:iM} (hl:c.toNat<s.chans.length):chI { s with chans:=s.chans.set c.toNat x} c=x:=by
 show (s.chans.set c.toNat x).getD c.toNat ch0=x;simp [hl]
theorem vU {m:PM} {c:Int} (x y:iM):bM (bM m c x) c y=bM m c y:=by simp [bM]
theorem yV {p:ay} {m:PM} {c:Int} {q q':List Nat} {y y':AV} {x x':iM} (h:c.toNat<m.s.chans.length) (e:(dW (chI m.s c)).put q y=dW x) (e':(dW x).put q' y'=dW x'):((je p m).put (1::2::c.toNat::q) y).put (1::2::c.toNat::q') y'=je p (bM m c x'):=by
 rw [lC h e,lC (m:=bM m c x) (x:=x') (by show c.toNat<(m.s.chans.set _ _).length;rw [List.length_set];exact h) (by rw [iT h];exact e'),vU]
theorem KL {p:ay} {m:PM} {c:Int} {q q' q2:List Nat} {y y' y2:AV} {x x' x2:iM} (h:c.toNat<m.s.chans.length) (e:(dW (chI m.s c)).put q y=dW x) (e':(dW x).put q' y'=dW x') (e2:(dW x').put q2 y2=dW x2):(((je p m).put (1::2::c.toNat::q) y).put (1::2::c.toNat::q') y').put (1::2::c.toNat::q2) y2=je p (bM m c x2):=by
 rw [yV h e e',lC (m:=bM m c x') (x:=x2) (by show c.toNat<(m.s.chans.set _ _).length;rw [List.length_set];exact h) (by rw [iT h];exact e2),vU]
abbrev rV (m:PM):AV := .ptr (.b 0) 1 0 [1,3,m.g.toNat]
theorem PU (p:ay) (m:PM) (hg:0≤m.g∧m.g<6):AC Tryz.prog T bn 162 [.ptr (.b 0) 1 0 []] [mO p m] (rV m) [mO p m]:=by
 refine aA hT Tryz.func162 rfl rfl (Nat.le_of_ble_eq_true rfl) ?_;refine sg rfl ?_;refine sq (drs [] rfl ?_ ?_)
 ·simp [-List.getD_eq_getElem?_getD,ak,under];omega
 exact WP.ret (aJ hT [] (ts:=[(2,rV m)]) (l:=[rV m]) trivial ⟨cq,tt⟩ ⟨obs rfl,tt⟩ rfl rfl rfl)
theorem qx (p:ay) (m:PM) (hg:0≤m.g∧m.g<6):AC Tryz.prog T bn 162 [.ptr (.b 0) 1 0 []] (List.map (gW (sig [.b 0] 0)) [mO p m]) (rV m) [mO p m]:=by rw [lI];exact PU p m hg
def bJ (m:PM) (r x:Int):PM:=if 0≤r then eP m (yI (aQ m) r x)else m
theorem mM {m:PM} (h:OkM m) (r x:Int):OkM (bJ m r x):=by
 unfold bJ;split
 ·exact ⟨h.s.eP (by show ((aQ m).regs.set _ _).length=8;rw [List.length_set];exact fJ h.s _),h.g⟩
 ·exact h
theorem Xv (p:ay) (m:PM) (r x:Int) (h:OkM m) (hr:r<8):AC Tryz.prog T bn 227 [.ptr (.b 0) 1 0 [],.int r,.int x] [mO p m] (.tup []) [mO p (bJ m r x)]:=by
 refine aA hT Tryz.func227 rfl rfl (Nat.le_of_ble_eq_true rfl) ?_;refine sg rfl ?_;refine cd rfl (fun h0=>?_) (fun h0=>?_)
 ·have h0':0≤r:=by simpa using h0
  have h8:(aQ m).regs.length=8:=fJ h.s _;refine rgs [⟨true,[.b 0],rV m,[mO p m]⟩] rfl ?_ ?_
  ·have hq:=qx p m h.g;have hk1:=bF [.b 0] p m
   have hk2:=bF (bs 1) p m;exact au
  change Fin ..
  first
  | (
   refine aJ hT [] (ts:=[]) (l:=[]) trivial trivial ⟨obs rfl (hg:=q0 (ah ?_)),tt⟩ rfl rfl rfl;show (ren _ (je p m)).put _ _=_
   rw [iw,bJ,if_pos h0'];exact zV h (jc x (by omega)))
  | (
   have e:bJ m r x=m:=by rw [bJ,if_neg (by simp at h0;omega)]
   rw [e];exact aJ hT [] (ts:=[]) (l:=[]) trivial trivial ⟨obs rfl,tt⟩ rfl rfl rfl)
 ·refine sk ?_;change Fin ..
  first
  | (
   refine aJ hT [] (ts:=[]) (l:=[]) trivial trivial ⟨obs rfl (hg:=q0 (ah ?_)),tt⟩ rfl rfl rfl;show (ren _ (je p m)).put _ _=_
   rw [iw,bJ,if_pos h0'];exact zV h (jc x (by omega)))
  | (
   have e:bJ m r x=m:=by rw [bJ,if_neg (by simp at h0;omega)]
   rw [e];exact aJ hT [] (ts:=[]) (l:=[]) trivial trivial ⟨obs rfl,tt⟩ rfl rfl rfl)
theorem lW (p:ay) (m:PM) (r x:Int) (h:OkM m) (hr:r<8):AC Tryz.prog T bn 227 [.ptr (.b 0) 1 0 [],.int r,.int x] (List.map (gW (sig [.b 0] 0)) [mO p m]) (.tup []) [mO p (bJ m r x)]:=by rw [lI];exact Xv p m r x h hr
def jZ (m:PM) (why:Int):PM:={ eP m (ou (aQ m) 4 why)with val:=0,over:=true}
theorem tN {m:PM} (h:OkM m) (why:Int):OkM (jZ m why):=⟨h.s.eP rfl,h.g⟩
theorem Zg (g:PGo) (why:Int):((((T 59).zero.put [0] (.int 4)).put [1] (.int g.func)).put [2] (.int g.pc)).put [3] (.int why)=bP (ou g 4 why):=by
 rw [E5,dV,show (bP { go0 with status:=4}).put [1] (.int g.func)=bP { go0 with status:=4,func:=g.func}from bG (Nat.le_of_ble_eq_true rfl),ng,zW];rfl
theorem XY (p:ay) (m:PM) (why:Int) (h:OkM m):AC Tryz.prog T bn 233 [.ptr (.b 0) 1 0 [],.int why] [mO p m] (.tup []) [mO p (jZ m why)]:=by
 refine aA hT Tryz.func233 rfl rfl (Nat.le_of_ble_eq_true rfl) ?_;refine sq (rgs [⟨true,[.b 0],rV m,[mO p m]⟩] rfl ?_ ?_)
 ·have hq:=qx p m h.g;have hk1:=bF [.b 0] p m
  have hk2:=bF (bs 1) p m;exact au
 refine sq ?_;refine WP.ent (st':=aK [(0,.ptr (.b 0) 1 0 []),(1,.int why),(4,rV m)] [(.b 0,mO p m)]) ?_ ?_
 ·refine em [] trivial ⟨cq,cq,cq,tt⟩ ⟨obs rfl (hg:=q0 (ah (iw _ _ _))),tt⟩
 refine dr [] rfl ?_;refine WP.ent (st':=aK [(0,.ptr (.b 0) 1 0 [])] [(.b 0,mO p (eP m (ou (aQ m) 4 why)))]) ?_ ?_
 ·refine em [] trivial ⟨cq,tt⟩ ⟨obs rfl (hg:=q0 (ah (zV h (by rw [← Zg];rfl)))),tt⟩
 refine rg [] rfl ?_;change Fin ..;refine aJ hT [] (ts:=[]) (l:=[]) trivial trivial ⟨obs rfl (hg:=q0 (ah ?_)),tt⟩ rfl rfl rfl;exact (congrArg (fun z=>AV.put z [5] (.bool true)) (jm p (eP m (ou (aQ m) 4 why)) 0)).trans (vZ p { eP m (ou (aQ m) 4 why)with val:=0} true)
theorem tY (p:ay) (m:PM) (why:Int) (h:OkM m):AC Tryz.prog T bn 233 [.ptr (.b 0) 1 0 [],.int why] (List.map (gW (sig [.b 0] 0)) [mO p m]) (.tup []) [mO p (jZ m why)]:=by rw [lI];exact XY p m why h
def fF (p:ay) (m:PM) (g:Int):PM:={ m with s:=(bD p m.s g m.fuel).1}
theorem CY (p:ay) (m:PM) (g:Int) (h:OkS m.s):AC Tryz.prog T bn 163 [.ptr (.b 0) 1 0 [],.int g] [mO p m] (.tup []) [mO p (fF p m g)]:=by
 refine aA hT Tryz.func163 rfl rfl (Nat.le_of_ble_eq_true rfl) ?_;refine drs [CG.pure (.tup [encS (bD p m.s g m.fuel).1,.int (bD p m.s g m.fuel).2])] rfl ?_ ?_
 ·have hq:=OG p m.s g m.fuel h;exact au
 change Fin ..;exact aJ hT [] (ts:=[]) (l:=[]) trivial trivial ⟨obs rfl (hg:=q0 (ah (zU (aav _ _)))),tt⟩ rfl rfl rfl
abbrev chM (c:Int):AV := .ptr (.b 0) 1 0 [1,2,c.toNat]
theorem fE {m:PM} (h:OkM m) (x:Int):OkM { m with val:=x}:=⟨h.s,h.g⟩
theorem TV {m:PM} (h:OkM m) (x:Bool):OkM { m with over:=x}:=⟨h.s,h.g⟩
theorem VK {m:PM} (h:OkM m) {x:PGo} (hx:Jm x):OkM (eP m x):=⟨h.s.eP hx,h.g⟩
theorem uK {m:PM} (h:OkM m) (c:Int) {x:iM} (hx:Ny x):OkM (bM m c x):=⟨h.s.bM hx,h.g⟩
abbrev mY (x:iM) (k v:Int):iM:={ x with buf:=x.buf.set k.toNat v}
def iK (p:ay) (m:PM) (c x:Int):PM :=
 if (chI m.s c).closed=true then jZ { m with val:=x} 4 else
 if 0<p.chans.getD c.toNat 0 then bM { m with val:=x} c { mY (chI m.s c) (chI m.s c).len x with len:=(chI m.s c).len+1}else
 { eP (bM { m with val:=x} c { chI m.s c with offer:=1,frm:=m.g,val:=x}) { aQ m with status:=2}with over:=true}
theorem Eh {p:ay} {m:PM} (h:OkM m) (c x:Int):OkM (iK p m c x):=by
 have hb:(chI m.s c).buf.length=4:=jh h.s _;unfold iK;split
 ·exact tN (fE h x) 4
 ·split
  ·exact uK (fE h x) c (by show ((chI m.s c).buf.set _ _).length=4;rw [List.length_set];exact hb)
  ·exact TV (VK (uK (fE h x) c (x:={ chI m.s c with offer:=1,frm:=m.g,val:=x}) hb) (x:={ aQ m with status:=2}) (fJ h.s _)) true
theorem Ug (p:ay) (m:PM) (c x:Int) (h:OkM m) (hc:bQ c p.chans.length) (hp:qV p) (hs:jl p m.s c=true) (hlen:0≤(chI m.s c).len):AC Tryz.prog T bn 225 [.ptr (.b 0) 1 0 [],.int c,.int x] [mO p m] (.tup []) [mO p (iK p m c x)]:=by
 refine aA hT Tryz.func225 rfl rfl (Nat.le_of_ble_eq_true rfl) ?_;have hc4:=hp.chans
 have hcap:p.chans.getD c.toNat 0≤4:=(hp.caps _ (by unfold bQ at hc;rw [List.getD_eq_getElem?_getD,List.getElem?_eq_getElem (show c.toNat<p.chans.length by omega)];exact List.getElem_mem _)).2;unfold bQ at hc;have hcc:0≤c∧c<4:=by omega
 have hb:(chI m.s c).buf.length=4:=jh h.s _;refine sq (rgs [] rfl ?_ ?_)
 ·simp [-List.getD_eq_getElem?_getD,ak,under];omega
 refine sg rfl ?_;refine bk (sq ?_);refine WP.ent (st':=aK [(0,.ptr (.b 0) 1 0 []),(1,.int c),(2,.int x),(6,chM c)] [(.b 0,mO p { m with val:=x})]) ?_ ?_
 ·refine em [] trivial ⟨cq,cq,cq,cq,tt⟩ ⟨obs rfl (hg:=q0 (ah (jm _ _ _))),tt⟩
 refine rg [] rfl ?_;refine cd rfl (fun h5=>?_) (fun h5=>?_)
 ·have hcl:(chI m.s c).closed=true:=by simp [-List.getD_eq_getElem?_getD]at h5;exact h5
  refine rgs [⟨true,[.b 0],.tup [],[mO p (jZ { m with val:=x} 4)]⟩] rfl ?_ ?_
  ·have hq:=tY p { m with val:=x} 4 (fE h x);have hk1:=bF [.b 0] p { m with val:=x}
   have hk2:=bF (bs 1) p (jZ { m with val:=x} 4);exact au
  change Fin ..
  first
  | (
   refine aJ hT [] (ts:=[]) (l:=[]) trivial trivial ⟨obs rfl (hg:=q0 (ah ?_)),tt⟩ rfl rfl rfl;rw [iK,if_pos hcl];exact iw _ _ _)
  | (
   refine aJ hT [] (ts:=[]) (l:=[]) trivial trivial ⟨obs rfl (hg:=q0 (ah ?_)),tt⟩ rfl rfl rfl;rw [iK,if_neg hcl,if_pos hpos];have hcl4:c.toNat<m.s.chans.length:=by rw [h.s.chans];omega
   have hz:IntKind.i64.wrap ((chI (bM { m with val:=x} c (mY (chI m.s c) (chI m.s c).len x)).s c).len+1)=(chI m.s c).len+1:=by
    rw [iT hcl4];exact bC (by show _≤(chI m.s c).len+1;omega) (by show (chI m.s c).len+1<_;omega)
   show (je p (bM { m with val:=x} c (mY (chI m.s c) (chI m.s c).len x))).put [1,2,c.toNat,1] (AV.int (IntKind.i64.wrap ((chI (bM { m with val:=x} c (mY (chI m.s c) (chI m.s c).len x)).s c).len+1)))=_;rw [hz];refine (lC (m:=bM { m with val:=x} c (mY (chI m.s c) (chI m.s c).len x)) (by show c.toNat<(m.s.chans.set _ _).length;rw [List.length_set];exact hcl4) (by rw [iT hcl4];exact pJ _ _)).trans ?_;rw [vU])
  | (
   refine aJ hT [] (ts:=[]) (l:=[]) trivial trivial ⟨obs rfl (hg:=q0 (ah ?_)),tt⟩ rfl rfl rfl;rw [iK,if_neg hcl,if_neg hpos];exact vZ _ _ _)
 ·have hcl:¬ (chI m.s c).closed=true:=by simp [-List.getD_eq_getElem?_getD]at h5;exact fun e=>absurd (h5.symm.trans e) (by decide)
  refine sq (rgs [] rfl ?_ ?_)
  ·simp [-List.getD_eq_getElem?_getD,ak,under];omega
  refine cd rfl (fun h7=>?_) (fun h7=>?_)
  ·have hpos:0<p.chans.getD c.toNat 0:=by simp [-List.getD_eq_getElem?_getD]at h7;omega
   have hll:(chI m.s c).len<p.chans.getD c.toNat 0:=by
    have:=hs;simp only [jl,Bool.or_eq_true,Bool.and_eq_true,decide_eq_true_eq,beq_iff_eq]at this;rcases this with (h1 | h1) | h1
    ·exact absurd h1 hcl
    ·exact h1.2
    ·omega
   refine sq (drs [] rfl ?_ ?_)
   ·simp only [chI]at hlen hll hb;simp [-List.getD_eq_getElem?_getD,ak,under];omega
   refine WP.ent (st':=aK [(6,chM c)] [(.b 0,mO p (bM { m with val:=x} c (mY (chI m.s c) (chI m.s c).len x)))]) ?_ ?_
   ·refine em [] trivial ⟨cq,tt⟩ ⟨obs rfl (hg:=q0 (ah (Xe (fE h x) hcc (rU x (by show (chI m.s c).len.toNat<(chI m.s c).buf.length;omega))))),tt⟩
   refine rg [] rfl ?_;change Fin ..
   first
   | (
    refine aJ hT [] (ts:=[]) (l:=[]) trivial trivial ⟨obs rfl (hg:=q0 (ah ?_)),tt⟩ rfl rfl rfl;rw [iK,if_pos hcl];exact iw _ _ _)
   | (
    refine aJ hT [] (ts:=[]) (l:=[]) trivial trivial ⟨obs rfl (hg:=q0 (ah ?_)),tt⟩ rfl rfl rfl;rw [iK,if_neg hcl,if_pos hpos];have hcl4:c.toNat<m.s.chans.length:=by rw [h.s.chans];omega
    have hz:IntKind.i64.wrap ((chI (bM { m with val:=x} c (mY (chI m.s c) (chI m.s c).len x)).s c).len+1)=(chI m.s c).len+1:=by
     rw [iT hcl4];exact bC (by show _≤(chI m.s c).len+1;omega) (by show (chI m.s c).len+1<_;omega)
    show (je p (bM { m with val:=x} c (mY (chI m.s c) (chI m.s c).len x))).put [1,2,c.toNat,1] (AV.int (IntKind.i64.wrap ((chI (bM { m with val:=x} c (mY (chI m.s c) (chI m.s c).len x)).s c).len+1)))=_;rw [hz];refine (lC (m:=bM { m with val:=x} c (mY (chI m.s c) (chI m.s c).len x)) (by show c.toNat<(m.s.chans.set _ _).length;rw [List.length_set];exact hcl4) (by rw [iT hcl4];exact pJ _ _)).trans ?_;rw [vU])
   | (
    refine aJ hT [] (ts:=[]) (l:=[]) trivial trivial ⟨obs rfl (hg:=q0 (ah ?_)),tt⟩ rfl rfl rfl;rw [iK,if_neg hcl,if_neg hpos];exact vZ _ _ _)
  ·have hpos:¬ 0<p.chans.getD c.toNat 0:=by simp [-List.getD_eq_getElem?_getD]at h7;omega
   refine sg rfl ?_;refine sq ?_;refine WP.ent (st':=aK [(0,.ptr (.b 0) 1 0 [])] [(.b 0,mO p (bM { m with val:=x} c { chI m.s c with offer:=1,frm:=m.g,val:=x}))]) ?_ ?_
   ·refine em [] trivial ⟨cq,tt⟩ ⟨obs rfl (hg:=q0 (ah (KL (m:={ m with val:=x}) (by show c.toNat<m.s.chans.length;rw [h.s.chans];omega) (iy _ 1) (rP _ m.g) (jV _ x)))),tt⟩
   refine rgs [⟨true,[.b 0],rV m,[mO p (bM { m with val:=x} c { chI m.s c with offer:=1,frm:=m.g,val:=x})]⟩] rfl ?_ ?_
   ·have hq:=qx p (bM { m with val:=x} c { chI m.s c with offer:=1,frm:=m.g,val:=x}) h.g;have hk1:=bF [.b 0] p (bM { m with val:=x} c { chI m.s c with offer:=1,frm:=m.g,val:=x})
    have hk2:=bF (bs 1) p (bM { m with val:=x} c { chI m.s c with offer:=1,frm:=m.g,val:=x});exact au
   refine WP.ent (st':=aK [(0,.ptr (.b 0) 1 0 [])] [(.b 0,mO p (eP (bM { m with val:=x} c { chI m.s c with offer:=1,frm:=m.g,val:=x}) { aQ m with status:=2}))]) ?_ ?_
   ·refine em [] trivial ⟨cq,tt⟩ ⟨obs rfl (hg:=q0 (ah ((congrArg (fun z=>AV.put z [1,3,m.g.toNat,0] (.int 2)) (iw _ _ _)).trans (zV (uK (fE h x) c hb) (dV _ 2))))),tt⟩
   refine rg [] rfl ?_;change Fin ..
   first
   | (
    refine aJ hT [] (ts:=[]) (l:=[]) trivial trivial ⟨obs rfl (hg:=q0 (ah ?_)),tt⟩ rfl rfl rfl;rw [iK,if_pos hcl];exact iw _ _ _)
   | (
    refine aJ hT [] (ts:=[]) (l:=[]) trivial trivial ⟨obs rfl (hg:=q0 (ah ?_)),tt⟩ rfl rfl rfl;rw [iK,if_neg hcl,if_pos hpos];have hcl4:c.toNat<m.s.chans.length:=by rw [h.s.chans];omega
    have hz:IntKind.i64.wrap ((chI (bM { m with val:=x} c (mY (chI m.s c) (chI m.s c).len x)).s c).len+1)=(chI m.s c).len+1:=by
     rw [iT hcl4];exact bC (by show _≤(chI m.s c).len+1;omega) (by show (chI m.s c).len+1<_;omega)
    show (je p (bM { m with val:=x} c (mY (chI m.s c) (chI m.s c).len x))).put [1,2,c.toNat,1] (AV.int (IntKind.i64.wrap ((chI (bM { m with val:=x} c (mY (chI m.s c) (chI m.s c).len x)).s c).len+1)))=_;rw [hz];refine (lC (m:=bM { m with val:=x} c (mY (chI m.s c) (chI m.s c).len x)) (by show c.toNat<(m.s.chans.set _ _).length;rw [List.length_set];exact hcl4) (by rw [iT hcl4];exact pJ _ _)).trans ?_;rw [vU])
   | (
    refine aJ hT [] (ts:=[]) (l:=[]) trivial trivial ⟨obs rfl (hg:=q0 (ah ?_)),tt⟩ rfl rfl rfl;rw [iK,if_neg hcl,if_neg hpos];exact vZ _ _ _)
def iY (l:List Int):List Int:=[l.getD 1 0,l.getD 2 0,l.getD 3 0,l.getD 3 0]
def dM (m:PM) (c:Int):PM×Bool :=
 if 0<(chI m.s c).len then (bM { m with val:=(chI m.s c).buf.getD 0 0} c { chI m.s c with buf:=(iY (chI m.s c).buf).set ((chI m.s c).len - 1).toNat 0,len:=(chI m.s c).len - 1},true)else
 if (chI m.s c).offer=1 then (bM { m with val:=(chI m.s c).val} c { chI m.s c with offer:=2,val:=0},true)else ({ m with val:=0},false)
theorem qy {m:PM} (h:OkM m) (c:Int):OkM (dM m c).1:=by
 have hb:(chI m.s c).buf.length=4:=jh h.s _;unfold dM;split
 ·exact uK (fE h _) c (by show (List.set _ _ _).length=4;rw [List.length_set];rfl)
 ·split
  ·exact uK (fE h _) c (x:={ chI m.s c with offer:=2,val:=0}) hb
  ·exact fE h _
theorem SN {l:List Int} (h:l.length=4):(AV.agg 54 4 fun j=>bif Nat.ble 0 j&&Nat.blt j 3 then .int (l.getD (1+j) 0)else .int (l.getD j 0))=o7 54 4 .i64 (iY l):=bg fun j=>by
 match j with
 | 0 | 1 | 2 | 3=>rfl
 | j+4=>exact congrArg AV.int (show l.getD (j+4) 0=0 by simp [List.getElem?_eq_none (show l.length≤j+4 by omega)])
theorem Uh (p:ay) (m:PM) (c:Int) (h:OkM m) (hc:0≤c∧c<4) (hlen:(chI m.s c).len≤4):AC Tryz.prog T bn 226 [.ptr (.b 0) 1 0 [],.int c] [mO p m] (.bool (dM m c).2) [mO p (dM m c).1]:=by
 refine aA hT Tryz.func226 rfl rfl (Nat.le_of_ble_eq_true rfl) ?_;have hb:(chI m.s c).buf.length=4:=jh h.s _
 have hcl4:c.toNat<m.s.chans.length:=by rw [h.s.chans];omega
 refine sg rfl ?_;refine sq (rgs [] rfl ?_ ?_)
 ·simp [-List.getD_eq_getElem?_getD,ak,under];omega
 refine sq (bk (sq (rg [] rfl ?_)));refine cd rfl (fun h4=>?_) (fun h4=>?_)
 ·have hpos:0<(chI m.s c).len:=by simp [-List.getD_eq_getElem?_getD]at h4;omega
  refine sg rfl ?_;refine sq ?_;refine WP.ent (st':=aK [(5,chM c)] [(.b 0,mO p { m with val:=(chI m.s c).buf.getD 0 0})]) ?_ ?_
  ·refine em [] trivial ⟨cq,tt⟩ ⟨obs rfl (hg:=q0 (ah (jm _ _ _))),tt⟩
  refine dr [] rfl ?_;refine sq ?_;refine WP.ent (st':=aK [(5,chM c)] [(.b 0,mO p (bM { m with val:=(chI m.s c).buf.getD 0 0} c { chI m.s c with buf:=iY (chI m.s c).buf}))]) ?_ ?_
  ·refine em [] trivial ⟨cq,tt⟩ ⟨obs rfl (hg:=q0 (ah (lC (m:={ m with val:=(chI m.s c).buf.getD 0 0}) hcl4 ((congrArg (fun z=>(dW (chI m.s c)).put [0] z) (SN hb)).trans (bG (Nat.le_of_ble_eq_true rfl)))))),tt⟩
  refine rg [] rfl ?_;have hz:IntKind.i64.wrap ((chI (bM { m with val:=(chI m.s c).buf.getD 0 0} c { chI m.s c with buf:=iY (chI m.s c).buf}).s c).len - 1)=(chI m.s c).len - 1:=by
   rw [iT hcl4];exact bC (by show _≤(chI m.s c).len - 1;omega) (by show (chI m.s c).len - 1<_;omega)
  refine WP.ent (st':=aK [(5,chM c)] [(.b 0,mO p (bM { m with val:=(chI m.s c).buf.getD 0 0} c { chI m.s c with buf:=iY (chI m.s c).buf,len:=(chI m.s c).len - 1}))]) ?_ ?_
  ·refine em [] trivial ⟨cq,tt⟩ ⟨obs rfl (hg:=q0 (ah ((congrArg (fun z=>AV.put (je p (bM { m with val:=(chI m.s c).buf.getD 0 0} c { chI m.s c with buf:=iY (chI m.s c).buf})) [1,2,c.toNat,1] (.int z)) hz).trans ((lC (m:=bM { m with val:=(chI m.s c).buf.getD 0 0} c { chI m.s c with buf:=iY (chI m.s c).buf}) (by show c.toNat<(m.s.chans.set _ _).length;rw [List.length_set];exact hcl4) (by rw [iT hcl4];exact pJ _ _)).trans (by rw [vU]))))),tt⟩
  refine drs [] rfl ?_ ?_
  ·have e:(chI (bM { m with val:=(chI m.s c).buf.getD 0 0} c { chI m.s c with buf:=iY (chI m.s c).buf,len:=(chI m.s c).len - 1}).s c).len=(chI m.s c).len - 1:=by rw [iT hcl4]
   have hA:0≤(chI (bM { m with val:=(chI m.s c).buf.getD 0 0} c { chI m.s c with buf:=iY (chI m.s c).buf,len:=(chI m.s c).len - 1}).s c).len∧(chI (bM { m with val:=(chI m.s c).buf.getD 0 0} c { chI m.s c with buf:=iY (chI m.s c).buf,len:=(chI m.s c).len - 1}).s c).len<4:=by rw [e];omega
   simp only [ak,under,CG.pure]
   repeat' with_reducible refine And.intro ?_ ?_
   all_goals (try with_reducible intros)
   all_goals (first | exact trivial | assumption | omega | exact hA | exact hA.1 | exact hA.2 | (simp;done) | grind)
  refine sg rfl ?_;refine WP.ret ?_;change Fin ..;have e:(chI (bM { m with val:=(chI m.s c).buf.getD 0 0} c { chI m.s c with buf:=iY (chI m.s c).buf,len:=(chI m.s c).len - 1}).s c).len=(chI m.s c).len - 1:=by rw [iT hcl4]
  have er:dM m c=(bM { m with val:=(chI m.s c).buf.getD 0 0} c { chI m.s c with buf:=(iY (chI m.s c).buf).set ((chI m.s c).len - 1).toNat 0,len:=(chI m.s c).len - 1},true):=by rw [dM,if_pos hpos]
  rw [er];refine aJ hT [] (ts:=[(4,.bool true)]) (l:=[.bool true]) trivial ⟨cq,tt⟩ ⟨obs rfl (hg:=q0 (ah ?_)),tt⟩ rfl rfl rfl;show (je p (bM { m with val:=(chI m.s c).buf.getD 0 0} c { chI m.s c with buf:=iY (chI m.s c).buf,len:=(chI m.s c).len - 1})).put [1,2,c.toNat,0,(chI (bM { m with val:=(chI m.s c).buf.getD 0 0} c { chI m.s c with buf:=iY (chI m.s c).buf,len:=(chI m.s c).len - 1}).s c).len.toNat] (.int 0)=_
  rw [e];refine (lC (m:=bM { m with val:=(chI m.s c).buf.getD 0 0} c { chI m.s c with buf:=iY (chI m.s c).buf,len:=(chI m.s c).len - 1}) (by show c.toNat<(m.s.chans.set _ _).length;rw [List.length_set];exact hcl4) (by rw [iT hcl4];exact rU 0 (by show _<4;omega))).trans ?_;rw [vU]
 ·have hpos:¬ 0<(chI m.s c).len:=by simp [-List.getD_eq_getElem?_getD]at h4;exact Int.not_lt.mpr h4
  refine sg rfl ?_;refine cd rfl (fun h9=>?_) (fun h9=>?_)
  ·have hof:(chI m.s c).offer=1:=by simp [-List.getD_eq_getElem?_getD]at h9;exact h9
   refine sg rfl ?_;refine WP.ent (st':=aK [(5,chM c)] [(.b 0,mO p { m with val:=(chI m.s c).val})]) ?_ ?_
   ·refine em [] trivial ⟨cq,tt⟩ ⟨obs rfl (hg:=q0 (ah (jm _ _ _))),tt⟩
   refine rg [] rfl ?_;refine sg rfl ?_;refine WP.ret ?_;change Fin ..;have er:dM m c=(bM { m with val:=(chI m.s c).val} c { chI m.s c with offer:=2,val:=0},true):=by rw [dM,if_neg hpos,if_pos hof]
   rw [er];exact aJ hT [] (ts:=[(4,.bool true)]) (l:=[.bool true]) trivial ⟨cq,tt⟩ ⟨obs rfl (hg:=q0 (ah (yV (m:={ m with val:=(chI m.s c).val}) hcl4 (iy _ 2) (jV _ 0)))),tt⟩ rfl rfl rfl
  ·have hof:¬ (chI m.s c).offer=1:=by simp [-List.getD_eq_getElem?_getD]at h9;exact h9
   refine sg rfl ?_;refine sg rfl ?_;refine WP.ret ?_;change Fin ..;have er:dM m c=({ m with val:=0},false):=by rw [dM,if_neg hpos,if_neg hof]
   rw [er];exact aJ hT [] (ts:=[(4,.bool false)]) (l:=[.bool false]) trivial ⟨cq,tt⟩ ⟨obs rfl (hg:=q0 (ah (jm _ _ _))),tt⟩ rfl rfl rfl
def jK (m:PM) (c:Int):PM:=eP (bM m c { chI m.s c with offer:=0,frm:=0,val:=0}) { aQ m with status:=1}
def pq (m:PM) (c:Int):PM:=if (chI m.s c).offer=3 then jZ (jK m c) 4 else jK m c
theorem tK {m:PM} (h:OkM m) (c:Int):OkM (jK m c):=VK (uK h c (x:={ chI m.s c with offer:=0,frm:=0,val:=0}) (jh h.s _)) (x:={ aQ m with status:=1}) (fJ h.s _)
theorem P9 (p:ay) (m:PM) (c:Int) (h:OkM m) (hc:0≤c∧c<4):AC Tryz.prog T bn 229 [.ptr (.b 0) 1 0 [],.int c] [mO p m] (.tup []) [mO p (pq m c)]:=by
 refine aA hT Tryz.func229 rfl rfl (Nat.le_of_ble_eq_true rfl) ?_;have hcl4:c.toNat<m.s.chans.length:=by rw [h.s.chans];omega
 have hb:Ny (chI m.s c):=jh h.s _;refine sq (rgs [] rfl ?_ ?_)
 ·simp [-List.getD_eq_getElem?_getD,ak,under];omega
 refine sg rfl ?_;refine sg rfl ?_;refine sq ?_;refine WP.ent (st':=aK [(0,.ptr (.b 0) 1 0 []),(5,.bool ((chI m.s c).offer==3))] [(.b 0,mO p (bM m c { chI m.s c with offer:=0,frm:=0,val:=0}))]) ?_ ?_
 ·refine em [] trivial ⟨cq,cq,tt⟩ ⟨obs rfl (hg:=q0 (ah (KL hcl4 (iy _ 0) (rP _ 0) (jV _ 0)))),tt⟩
 refine rgs [⟨true,[.b 0],rV m,[mO p (bM m c { chI m.s c with offer:=0,frm:=0,val:=0})]⟩] rfl ?_ ?_
 ·have hq:=qx p (bM m c { chI m.s c with offer:=0,frm:=0,val:=0}) h.g;have hk1:=bF [.b 0] p (bM m c { chI m.s c with offer:=0,frm:=0,val:=0})
  have hk2:=bF (bs 1) p (bM m c { chI m.s c with offer:=0,frm:=0,val:=0});exact au
 refine sq ?_;refine WP.ent (st':=aK [(0,.ptr (.b 0) 1 0 []),(5,.bool ((chI m.s c).offer==3))] [(.b 0,mO p (jK m c))]) ?_ ?_
 ·refine em [] trivial ⟨cq,cq,tt⟩ ⟨obs rfl (hg:=q0 (ah ((congrArg (fun z=>AV.put z [1,3,m.g.toNat,0] (.int 1)) (iw _ _ _)).trans (zV (uK h c (x:={ chI m.s c with offer:=0,frm:=0,val:=0}) hb) (dV _ 1))))),tt⟩
 refine rg [] rfl ?_;refine cd rfl (fun h4=>?_) (fun h4=>?_)
 ·have hl:(chI m.s c).offer=3:=by simpa using h4
  refine rgs [⟨true,[.b 0],.tup [],[mO p (jZ (jK m c) 4)]⟩] rfl ?_ ?_
  ·have hq:=tY p (jK m c) 4 (tK h c);have hk1:=bF [.b 0] p (jK m c)
   have hk2:=bF (bs 1) p (jZ (jK m c) 4);exact au
  change Fin ..
  first
  | (
   refine aJ hT [] (ts:=[]) (l:=[]) trivial trivial ⟨obs rfl (hg:=q0 (ah ?_)),tt⟩ rfl rfl rfl;rw [pq,if_pos hl];exact iw _ _ _)
  | (
   refine aJ hT [] (ts:=[]) (l:=[]) trivial trivial ⟨obs rfl (hg:=q0 (ah ?_)),tt⟩ rfl rfl rfl;rw [pq,if_neg hl])
 ·have hl:¬ (chI m.s c).offer=3:=by simpa using h4
  refine sk ?_;change Fin ..
  first
  | (
   refine aJ hT [] (ts:=[]) (l:=[]) trivial trivial ⟨obs rfl (hg:=q0 (ah ?_)),tt⟩ rfl rfl rfl;rw [pq,if_pos hl];exact iw _ _ _)
  | (
   refine aJ hT [] (ts:=[]) (l:=[]) trivial trivial ⟨obs rfl (hg:=q0 (ah ?_)),tt⟩ rfl rfl rfl;rw [pq,if_neg hl])
def nX (m:PM) (c:Int):PM:=if (chI m.s c).closed=true then jZ m 5 else if (chI m.s c).offer=1 then bM m c { chI m.s c with closed:=true,offer:=3,val:=0}else bM m c { chI m.s c with closed:=true}
theorem Ue (p:ay) (m:PM) (c:Int) (h:OkM m) (hc:0≤c∧c<4):AC Tryz.prog T bn 230 [.ptr (.b 0) 1 0 [],.int c] [mO p m] (.tup []) [mO p (nX m c)]:=by
 refine aA hT Tryz.func230 rfl rfl (Nat.le_of_ble_eq_true rfl) ?_;have hcl4:c.toNat<m.s.chans.length:=by rw [h.s.chans];omega
 refine sq (rgs [] rfl ?_ ?_)
 ·simp [-List.getD_eq_getElem?_getD,ak,under];omega
 refine sq (sq (rg [] rfl ?_));refine cd rfl (fun h1=>?_) (fun h1=>?_)
 ·have hcl:(chI m.s c).closed=true:=h1;refine sq (rgs [⟨true,[.b 0],.tup [],[mO p (jZ m 5)]⟩] rfl ?_ ?_)
  ·have hq:=tY p m 5 h;have hk1:=bF [.b 0] p m
   have hk2:=bF (bs 1) p (jZ m 5);exact au
  refine WP.ret ?_;change Fin ..;refine aJ hT [] (ts:=[]) (l:=[]) trivial trivial ⟨obs rfl (hg:=q0 (ah ?_)),tt⟩ rfl rfl rfl;rw [nX,if_pos hcl];exact iw _ _ _
 ·have hcl:¬ (chI m.s c).closed=true:=fun e=>absurd (h1.symm.trans e) (by decide);refine sk (sq (rg [] rfl ?_));refine sq ?_;have e1:(chI (bM m c { chI m.s c with closed:=true}).s c)={ chI m.s c with closed:=true}:=iT hcl4
  refine WP.ent (st':=aK [(4,chM c)] [(.b 0,mO p (bM m c { chI m.s c with closed:=true}))]) ?_ ?_
  ·refine em [] trivial ⟨cq,tt⟩ ⟨obs rfl (hg:=q0 (ah (lC hcl4 (rQ _ true)))),tt⟩
  refine rg [] rfl ?_;refine cd rfl (fun h4=>?_) (fun h4=>?_)
  ·have hof:(chI m.s c).offer=1:=eq_of_beq ((congrArg (fun z:iM=>z.offer==1) e1).symm.trans h4);refine rg [] rfl ?_;change Fin ..
   first
   | (
    refine aJ hT [] (ts:=[]) (l:=[]) trivial trivial ⟨obs rfl (hg:=q0 (ah ?_)),tt⟩ rfl rfl rfl;rw [nX,if_neg hcl,if_pos hof];refine (yV (m:=bM m c { chI m.s c with closed:=true}) (x:={ chI m.s c with closed:=true,offer:=3}) (x':={ chI m.s c with closed:=true,offer:=3,val:=0}) (by show c.toNat<(m.s.chans.set _ _).length;rw [List.length_set];exact hcl4) (by rw [e1];exact iy _ 3) (jV _ 0)).trans ?_;rw [vU])
   | (
    refine aJ hT [] (ts:=[]) (l:=[]) trivial trivial ⟨obs rfl (hg:=q0 (ah ?_)),tt⟩ rfl rfl rfl;rw [nX,if_neg hcl,if_neg hof])
  ·have hof:¬ (chI m.s c).offer=1:=fun e=>absurd ((beq_iff_eq.2 e).symm.trans ((congrArg (fun z:iM=>z.offer==1) e1).symm.trans h4)) (by decide);refine sk ?_;change Fin ..
   first
   | (
    refine aJ hT [] (ts:=[]) (l:=[]) trivial trivial ⟨obs rfl (hg:=q0 (ah ?_)),tt⟩ rfl rfl rfl;rw [nX,if_neg hcl,if_pos hof];refine (yV (m:=bM m c { chI m.s c with closed:=true}) (x:={ chI m.s c with closed:=true,offer:=3}) (x':={ chI m.s c with closed:=true,offer:=3,val:=0}) (by show c.toNat<(m.s.chans.set _ _).length;rw [List.length_set];exact hcl4) (by rw [e1];exact iy _ 3) (jV _ 0)).trans ?_;rw [vU])
   | (
    refine aJ hT [] (ts:=[]) (l:=[]) trivial trivial ⟨obs rfl (hg:=q0 (ah ?_)),tt⟩ rfl rfl rfl;rw [nX,if_neg hcl,if_neg hof])
theorem KU {m:PM} (h:OkM m) (c:Int):OkM (nX m c):=by
 have hb:Ny (chI m.s c):=jh h.s _;unfold nX;split
 ·exact tN h 5
 ·split
  ·exact uK h c (x:={ chI m.s c with closed:=true,offer:=3,val:=0}) hb
  ·exact uK h c (x:={ chI m.s c with closed:=true}) hb
theorem PZ {m:PM} (h:OkM m) (c:Int):OkM (pq m c):=by
 unfold pq;split
 ·exact tN (tK h c) 4
 ·exact tK h c
def jM (b:Bool):Int:=if b then 1 else 0
theorem Aj (b:Bool):AC Tryz.prog T bn 228 [.bool b] [] (.int (jM b)) []:=by
 refine aA hT Tryz.func228 rfl rfl (Nat.le_of_ble_eq_true rfl) ?_;refine sg rfl ?_;refine sq (sq (rg [] rfl ?_));refine cd rfl (fun h1=>?_) (fun h1=>?_)
 ·refine sg rfl ?_;refine WP.ret ?_;change Fin ..;refine cZ hT (by rfl) ?_;simp_all [jM]
 ·refine sk (sq (rg [] rfl ?_));refine WP.ret ?_;change Fin ..;refine cZ hT (by rfl) ?_;simp_all [jM]
abbrev setVar (m:PM) (k x:Int):PM:={ m with s:={ m.s with vars:=m.s.vars.set k.toNat x} }
abbrev uD (m:PM) (k x:Int):PM:={ m with s:={ m.s with owner:=m.s.owner.set k.toNat x} }
abbrev cO (m:PM) (x:Int):PM:={ m with val:=x}
theorem Jk {m:PM} (h:OkM m) (k x:Int):OkM (setVar m k x):=⟨h.s.setVar _ _,h.g⟩
theorem Jl {m:PM} (h:OkM m) (k x:Int):OkM (uD m k x):=⟨h.s.setOwn _ _,h.g⟩
theorem D9 {p:ay} {m:PM} (h:OkM m) {k:Int} (hk:0≤k∧k<8) (x:Int):(je p m).put [1,0,k.toNat] (.int x)=je p (setVar m k x):=zU (tC x (by rw [h.s.vars];omega))
theorem Ea {p:ay} {m:PM} (h:OkM m) {k:Int} (hk:0≤k∧k<4) (x:Int):(je p m).put [1,1,k.toNat] (.int x)=je p (uD m k x):=zU (yU x (by rw [h.s.owner];omega))
def mF (m:PM) (x:jR):PM:=if jM (lT m.s x.b==bZ (aQ m) x.c)=1 then setVar (cO m (jM (lT m.s x.b==bZ (aQ m) x.c))) x.b (bZ (aQ m) x.n)else cO m (jM (lT m.s x.b==bZ (aQ m) x.c))
def mg (m:PM) (x:jR):PM:=if jM (qO m.s x.b==0)=1 then uD (cO m (jM (qO m.s x.b==0))) x.b (m.g+1)else cO m (jM (qO m.s x.b==0))
def uz (m:PM) (x:jR):PM:=bJ (cO m (bZ (aQ m) x.c)) x.a (lT m.s x.b)
def aX (m:PM) (x:jR):PM×Bool :=
 if x.op=50 then (bJ (cO m (lT m.s x.b)) x.a (lT m.s x.b),true)else if x.op=51 then (setVar (cO m (bZ (aQ m) x.b)) x.a (bZ (aQ m) x.b),true)else
 if x.op=52 then (setVar (uz m x) x.b (wI (lT (uz m x).s x.b+(uz m x).val)),true)else
 if x.op=53 then (bJ (mF m x) x.a (jM (lT m.s x.b==bZ (aQ m) x.c)),true)else if x.op=54 then (cO m (bZ (aQ m) x.b),true)else
 if x.op=55 then (uD m x.a (m.g+1),true)else if x.op=56 then (if qO m.s x.a≠m.g+1 then (jZ m 6,true)else (uD m x.a 0,true))else
 if x.op=57 then (bJ (mg m x) x.a (jM (qO m.s x.b==0)),true)else (m,false)
theorem Af {m:PM} (h:OkM m) (x:jR):OkM (mF m x):=by
 unfold mF;split
 ·exact Jk (fE h _) _ _
 ·exact fE h _
theorem Ae {m:PM} (h:OkM m) (x:jR):OkM (mg m x):=by
 unfold mg;split
 ·exact Jl (fE h _) _ _
 ·exact fE h _
theorem Ej {m:PM} (h:OkM m) (x:jR):OkM (uz m x):=mM (fE h _) _ _
theorem CW {m:PM} (h:OkM m) (x:jR):OkM (aX m x).1:=by
 unfold aX
 repeat' split
 ·exact mM (fE h _) _ _
 ·exact Jk (fE h _) _ _
 ·exact Jk (Ej h x) _ _
 ·exact mM (Af h x) _ _
 ·exact fE h _
 ·exact Jl h _ _
 ·exact tN h _
 ·exact Jl h _ _
 ·exact mM (Ae h x) _ _
 ·exact h
theorem OE (p:ay) (m:PM) (F:iL) (x:jR) (h:OkM m) (hp:qV p) (hF:Dw p F) (hi:x.op≠66→MK p F x):AC Tryz.prog T bn 224 [.ptr (.b 0) 1 0 [],aP x] [mO p m] (.bool (aX m x).2) [mO p (aX m x).1]:=by
 refine aA hT Tryz.func224 rfl rfl (Nat.le_of_ble_eq_true rfl) ?_;have hr:=hF.regs;have hv:=hp.vars;have hlk:=hp.locks
 have hg:=h.g;have h8:(aQ m).regs.length=8:=fJ h.s _
 have hw1:IntKind.i64.wrap (m.g+1)=m.g+1:=bC (by omega) (by omega);refine sg rfl ?_;refine sq ?_;refine WP.ent (st':=aK [(0,.ptr (.b 0) 1 0 []),(3,.rp 120 (aP x))] [(.b 0,mO p m)]) ?_ ?_
 ·refine em [(.s 3 0,1)] ⟨sF,tt⟩ ⟨cq,rq,tt⟩ ⟨obs rfl,tt⟩
 refine rgs [⟨true,[.b 0],rV m,[mO p m]⟩] rfl ?_ ?_
 ·have hq:=qx p m h.g;have hk1:=bF [.b 0] p m
  have hk2:=bF (bs 1) p m;exact au
 refine sq (sq ?_);refine WP.ent (st':=aK [(0,.ptr (.b 0) 1 0 []),(3,.rp 120 (aP x)),(5,.rp 52 (o7 52 8 .i64 (aQ m).regs))] [(.b 0,mO p m)]) ?_ ?_
 ·refine em [(.s 5 0,1)] ⟨sF,tt⟩ ⟨cq,cq,rq,tt⟩ ⟨obs rfl (hg:=q0 (ah (iw _ _ _))),tt⟩
 refine rg [] rfl ?_;refine bk (sq (rg [] rfl ?_));refine cd rfl (fun h4=>?_) (fun h4=>?_)
 ·have e:x.op=50:=by simpa using h4
  have hx:=(hi (by omega)).load e;simp only [lq,bQ]at hx;refine sq (drs [] rfl ?_ ?_)
  ·simp [-List.getD_eq_getElem?_getD,ak,under];omega
  refine WP.ent (st':=aK [(0,.ptr (.b 0) 1 0 []),(3,.rp 120 (aP x))] [(.b 0,mO p (cO m (lT m.s x.b)))]) ?_ ?_
  ·refine em [] trivial ⟨cq,cq,tt⟩ ⟨obs rfl (hg:=q0 (ah (jm _ _ _))),tt⟩
  refine drs [⟨true,[.b 0],.tup [],[mO p (bJ (cO m (lT m.s x.b)) x.a (lT m.s x.b))]⟩] rfl ?_ ?_
  ·have hq:=lW p (cO m (lT m.s x.b)) x.a (lT m.s x.b) (fE h _) (by omega);have hk1:=bF [.b 0] p (cO m (lT m.s x.b))
   have hk2:=bF (bs 1) p (bJ (cO m (lT m.s x.b)) x.a (lT m.s x.b));exact au
  refine sg rfl ?_;refine WP.ret ?_;change Fin ..;have er:aX m x=(bJ (cO m (lT m.s x.b)) x.a (lT m.s x.b),true):=by rw [aX,if_pos e]
  rw [er];exact aJ hT [] (ts:=[(4,.bool true)]) (l:=[.bool true]) trivial ⟨cq,tt⟩ ⟨obs rfl (hg:=q0 (ah (iw _ _ _))),tt⟩ rfl rfl rfl
 ·have e50:x.op≠50:=by simpa using h4
  refine sg rfl ?_;refine cd rfl (fun h7=>?_) (fun h7=>?_)
  ·have e:x.op=51:=by simpa using h7
   have hx:=(hi (by omega)).store (.inl e);simp only [lq,bQ]at hx;refine sq (rgs [] rfl ?_ ?_)
   ·simp [-List.getD_eq_getElem?_getD,ak,under];omega
   refine WP.ent (st':=aK [(0,.ptr (.b 0) 1 0 []),(3,.rp 120 (aP x))] [(.b 0,mO p (cO m (bZ (aQ m) x.b)))]) ?_ ?_
   ·refine em [] trivial ⟨cq,cq,tt⟩ ⟨obs rfl (hg:=q0 (ah (jm _ _ _))),tt⟩
   refine drs [] rfl ?_ ?_
   ·simp [-List.getD_eq_getElem?_getD,ak,under];omega
   refine sg rfl ?_;refine WP.ret ?_;change Fin ..;have er:aX m x=(setVar (cO m (bZ (aQ m) x.b)) x.a (bZ (aQ m) x.b),true):=by simp only [aX,e];rfl
   rw [er];exact aJ hT [] (ts:=[(4,.bool true)]) (l:=[.bool true]) trivial ⟨cq,tt⟩ ⟨obs rfl (hg:=q0 (ah (D9 (fE h _) (by omega) _))),tt⟩ rfl rfl rfl
  ·have e51:x.op≠51:=by simpa using h7
   refine sg rfl ?_;refine cd rfl (fun h10=>?_) (fun h10=>?_)
   ·have e:x.op=52:=by simpa using h10
    have hx:=(hi (by omega)).bump e;simp only [lq,bQ]at hx;refine sq (rgs [] rfl ?_ ?_)
    ·simp [-List.getD_eq_getElem?_getD,ak,under];omega
    refine sq ?_;refine WP.ent (st':=aK [(0,.ptr (.b 0) 1 0 []),(3,.rp 120 (aP x))] [(.b 0,mO p (cO m (bZ (aQ m) x.c)))]) ?_ ?_
    ·refine em [] trivial ⟨cq,cq,tt⟩ ⟨obs rfl (hg:=q0 (ah (jm _ _ _))),tt⟩
    refine drs [⟨true,[.b 0],.tup [],[mO p (uz m x)]⟩] rfl ?_ ?_
    ·have hq:=lW p (cO m (bZ (aQ m) x.c)) x.a (lT m.s x.b) (fE h _) (by omega);have hk1:=bF [.b 0] p (cO m (bZ (aQ m) x.c))
     have hk2:=bF (bs 1) p (uz m x);exact au
    refine WP.ent (st':=aK [(0,.ptr (.b 0) 1 0 []),(3,.rp 120 (aP x))] [(.b 0,mO p (uz m x))]) ?_ ?_
    ·refine em [] trivial ⟨cq,cq,tt⟩ ⟨obs rfl (hg:=q0 (ah (iw _ _ _))),tt⟩
    refine drs [] rfl ?_ ?_
    ·simp [-List.getD_eq_getElem?_getD,ak,under];omega
    refine sg rfl ?_;refine WP.ret ?_;change Fin ..;have er:aX m x=(setVar (uz m x) x.b (wI (lT (uz m x).s x.b+(uz m x).val)),true):=by simp only [aX,e];rfl
    rw [er];exact aJ hT [] (ts:=[(4,.bool true)]) (l:=[.bool true]) trivial ⟨cq,tt⟩ ⟨obs rfl (hg:=q0 (ah (D9 (Ej h x) (by omega) _))),tt⟩ rfl rfl rfl
   ·have e52:x.op≠52:=by simpa using h10
    refine sg rfl ?_;refine cd rfl (fun h14=>?_) (fun h14=>?_)
    ·have e:x.op=53:=by simpa using h14
     have hx:=(hi (by omega)).cas e;simp only [lq,bQ]at hx;refine sq (drs [CG.pure (.int (jM (lT m.s x.b==bZ (aQ m) x.c)))] rfl ?_ ?_)
     ·have hq:=Aj (lT m.s x.b==bZ (aQ m) x.c);exact au
     refine sq (sq ?_);refine WP.ent (st':=aK [(0,.ptr (.b 0) 1 0 []),(3,.rp 120 (aP x)),(5,.rp 52 (o7 52 8 .i64 (aQ m).regs))] [(.b 0,mO p (cO m (jM (lT m.s x.b==bZ (aQ m) x.c))))]) ?_ ?_
     ·refine em [] trivial ⟨cq,cq,cq,tt⟩ ⟨obs rfl (hg:=q0 (ah (jm _ _ _))),tt⟩
     refine rg [] rfl ?_;refine cd rfl (fun h16=>?_) (fun h16=>?_)
     ·have hz:jM (lT m.s x.b==bZ (aQ m) x.c)=1:=eq_of_beq h16;have ec:mF m x=setVar (cO m (jM (lT m.s x.b==bZ (aQ m) x.c))) x.b (bZ (aQ m) x.n):=by rw [mF,if_pos hz]
      refine drs [] rfl ?_ ?_
      ·simp [-List.getD_eq_getElem?_getD,ak,under];omega
      refine WP.ent (st':=aK [(0,.ptr (.b 0) 1 0 []),(3,.rp 120 (aP x))] [(.b 0,mO p (mF m x))]) ?_ ?_
      ·refine em [] trivial ⟨cq,cq,tt⟩ ⟨obs rfl (hg:=q0 (ah (by rw [ec];exact D9 (fE h _) (by omega) _))),tt⟩
      refine drs [⟨true,[.b 0],.tup [],[mO p (bJ (mF m x) x.a (jM (lT m.s x.b==bZ (aQ m) x.c)))]⟩] rfl ?_ ?_
      ·have ev:(mF m x).val=jM (lT m.s x.b==bZ (aQ m) x.c):=by rw [ec]
       have hq:=lW p (mF m x) x.a (jM (lT m.s x.b==bZ (aQ m) x.c)) (Af h x) (by omega);have hk1:=bF [.b 0] p (mF m x)
       have hk2:=bF (bs 1) p (bJ (mF m x) x.a (jM (lT m.s x.b==bZ (aQ m) x.c)));rw [← ev]at hq hk2 ⊢;exact au
      refine sg rfl ?_;refine WP.ret ?_;change Fin ..;have er:aX m x=(bJ (mF m x) x.a (jM (lT m.s x.b==bZ (aQ m) x.c)),true):=by simp only [aX,e];rfl
      rw [er];exact aJ hT [] (ts:=[(4,.bool true)]) (l:=[.bool true]) trivial ⟨cq,tt⟩ ⟨obs rfl (hg:=q0 (ah (iw _ _ _))),tt⟩ rfl rfl rfl
     ·have hz:¬ jM (lT m.s x.b==bZ (aQ m) x.c)=1:=fun e=>absurd ((beq_iff_eq.2 e).symm.trans h16) (by decide);have ec:mF m x=cO m (jM (lT m.s x.b==bZ (aQ m) x.c)):=by rw [mF,if_neg hz]
      refine sk ?_;refine WP.ent (st':=aK [(0,.ptr (.b 0) 1 0 []),(3,.rp 120 (aP x))] [(.b 0,mO p (mF m x))]) ?_ ?_
      ·refine em [] trivial ⟨cq,cq,tt⟩ ⟨obs rfl (hg:=q0 (ah (by rw [ec]))),tt⟩
      refine drs [⟨true,[.b 0],.tup [],[mO p (bJ (mF m x) x.a (jM (lT m.s x.b==bZ (aQ m) x.c)))]⟩] rfl ?_ ?_
      ·have ev:(mF m x).val=jM (lT m.s x.b==bZ (aQ m) x.c):=by rw [ec]
       have hq:=lW p (mF m x) x.a (jM (lT m.s x.b==bZ (aQ m) x.c)) (Af h x) (by omega);have hk1:=bF [.b 0] p (mF m x)
       have hk2:=bF (bs 1) p (bJ (mF m x) x.a (jM (lT m.s x.b==bZ (aQ m) x.c)));rw [← ev]at hq hk2 ⊢;exact au
      refine sg rfl ?_;refine WP.ret ?_;change Fin ..;have er:aX m x=(bJ (mF m x) x.a (jM (lT m.s x.b==bZ (aQ m) x.c)),true):=by simp only [aX,e];rfl
      rw [er];exact aJ hT [] (ts:=[(4,.bool true)]) (l:=[.bool true]) trivial ⟨cq,tt⟩ ⟨obs rfl (hg:=q0 (ah (iw _ _ _))),tt⟩ rfl rfl rfl
    ·have e53:x.op≠53:=by simpa using h14
     refine sg rfl ?_;refine cd rfl (fun h19=>?_) (fun h19=>?_)
     ·have e:x.op=54:=by simpa using h19
      have hx:=(hi (by omega)).store (.inr e);simp only [lq,bQ]at hx;refine rgs [] rfl ?_ ?_
      ·simp [-List.getD_eq_getElem?_getD,ak,under];omega
      refine sg rfl ?_;refine WP.ret ?_;change Fin ..;have er:aX m x=(cO m (bZ (aQ m) x.b),true):=by simp only [aX,e];rfl
      rw [er];exact aJ hT [] (ts:=[(4,.bool true)]) (l:=[.bool true]) trivial ⟨cq,tt⟩ ⟨obs rfl (hg:=q0 (ah (jm _ _ _))),tt⟩ rfl rfl rfl
     ·have e54:x.op≠54:=by simpa using h19
      refine sg rfl ?_;refine cd rfl (fun h21=>?_) (fun h21=>?_)
      ·have e:x.op=55:=by simpa using h21
       have hx:=(hi (by omega)).lock (.inl e);refine drs [] rfl ?_ ?_
       ·simp [-List.getD_eq_getElem?_getD,ak,under];omega
       refine sg rfl ?_;refine WP.ret ?_;change Fin ..;have er:aX m x=(uD m x.a (m.g+1),true):=by simp only [aX,e];rfl
       rw [er];exact aJ hT [] (ts:=[(4,.bool true)]) (l:=[.bool true]) trivial ⟨cq,tt⟩ ⟨obs rfl (hg:=q0 (ah ((congrArg (fun z=>(je p m).put [1,1,x.a.toNat] (.int z)) hw1).trans (Ea h (by omega) _)))),tt⟩ rfl rfl rfl
      ·have e55:x.op≠55:=by simpa using h21
       refine sg rfl ?_;refine cd rfl (fun h23=>?_) (fun h23=>?_)
       ·have e:x.op=56:=by simpa using h23
        have hx:=(hi (by omega)).lock (.inr e);refine sq (sq (drs [] rfl ?_ ?_))
        ·simp [-List.getD_eq_getElem?_getD,ak,under];omega
        refine cd rfl (fun h24=>?_) (fun h24=>?_)
        ·have hz:qO m.s x.a≠m.g+1:=by
          have h9:(qO m.s x.a != IntKind.i64.wrap (m.g+1))=true:=h24;rw [hw1]at h9;exact bne_iff_ne.1 h9
         refine sq (rgs [⟨true,[.b 0],.tup [],[mO p (jZ m 6)]⟩] rfl ?_ ?_)
         ·have hq:=tY p m 6 h;have hk1:=bF [.b 0] p m
          have hk2:=bF (bs 1) p (jZ m 6);exact au
         refine sg rfl ?_;refine WP.ret ?_;change Fin ..;have er:aX m x=(jZ m 6,true):=by simp only [aX,e];exact if_pos hz
         rw [er];exact aJ hT [] (ts:=[(4,.bool true)]) (l:=[.bool true]) trivial ⟨cq,tt⟩ ⟨obs rfl (hg:=q0 (ah (iw _ _ _))),tt⟩ rfl rfl rfl
        ·have hz:¬ qO m.s x.a≠m.g+1:=by
          have h9:(qO m.s x.a != IntKind.i64.wrap (m.g+1))=false:=h24;rw [hw1]at h9;simpa using h9
         refine sk (drs [] rfl ?_ ?_)
         ·simp [-List.getD_eq_getElem?_getD,ak,under];omega
         refine sg rfl ?_;refine WP.ret ?_;change Fin ..;have er:aX m x=(uD m x.a 0,true):=by simp only [aX,e];exact if_neg hz
         rw [er];exact aJ hT [] (ts:=[(4,.bool true)]) (l:=[.bool true]) trivial ⟨cq,tt⟩ ⟨obs rfl (hg:=q0 (ah (Ea h (by omega) _))),tt⟩ rfl rfl rfl
       ·have e56:x.op≠56:=by simpa using h23
        refine sg rfl ?_;refine cd rfl (fun h28=>?_) (fun h28=>?_)
        ·have e:x.op=57:=by simpa using h28
         have hx:=(hi (by omega)).try_ e;simp only [lq,bQ]at hx;refine sq (drs [CG.pure (.int (jM (qO m.s x.b==0)))] rfl ?_ ?_)
         ·have hq:=Aj (qO m.s x.b==0);exact au
         refine sq (sq ?_);refine WP.ent (st':=aK [(0,.ptr (.b 0) 1 0 []),(3,.rp 120 (aP x))] [(.b 0,mO p (cO m (jM (qO m.s x.b==0))))]) ?_ ?_
         ·refine em [] trivial ⟨cq,cq,tt⟩ ⟨obs rfl (hg:=q0 (ah (jm _ _ _))),tt⟩
         refine rg [] rfl ?_;refine cd rfl (fun h30=>?_) (fun h30=>?_)
         ·have hz:jM (qO m.s x.b==0)=1:=eq_of_beq h30;have ec:mg m x=uD (cO m (jM (qO m.s x.b==0))) x.b (m.g+1):=by rw [mg,if_pos hz]
          refine drs [] rfl ?_ ?_
          ·simp [-List.getD_eq_getElem?_getD,ak,under];omega
          refine WP.ent (st':=aK [(0,.ptr (.b 0) 1 0 []),(3,.rp 120 (aP x))] [(.b 0,mO p (mg m x))]) ?_ ?_
          ·refine em [] trivial ⟨cq,cq,tt⟩ ⟨obs rfl (hg:=q0 (ah (by rw [ec];exact (congrArg (fun z=>(je p (cO m (jM (qO m.s x.b==0)))).put [1,1,x.b.toNat] (.int z)) hw1).trans (Ea (fE h _) (by omega) _)))),tt⟩
          refine drs [⟨true,[.b 0],.tup [],[mO p (bJ (mg m x) x.a (jM (qO m.s x.b==0)))]⟩] rfl ?_ ?_
          ·have ev:(mg m x).val=jM (qO m.s x.b==0):=by rw [ec]
           have hq:=lW p (mg m x) x.a (jM (qO m.s x.b==0)) (Ae h x) (by omega);have hk1:=bF [.b 0] p (mg m x)
           have hk2:=bF (bs 1) p (bJ (mg m x) x.a (jM (qO m.s x.b==0)));rw [← ev]at hq hk2 ⊢;exact au
          refine sg rfl ?_;refine WP.ret ?_;change Fin ..;have er:aX m x=(bJ (mg m x) x.a (jM (qO m.s x.b==0)),true):=by simp only [aX,e];rfl
          rw [er];exact aJ hT [] (ts:=[(4,.bool true)]) (l:=[.bool true]) trivial ⟨cq,tt⟩ ⟨obs rfl (hg:=q0 (ah (iw _ _ _))),tt⟩ rfl rfl rfl
         ·have hz:¬ jM (qO m.s x.b==0)=1:=fun e=>absurd ((beq_iff_eq.2 e).symm.trans h30) (by decide);have ec:mg m x=cO m (jM (qO m.s x.b==0)):=by rw [mg,if_neg hz]
          refine sk ?_;refine WP.ent (st':=aK [(0,.ptr (.b 0) 1 0 []),(3,.rp 120 (aP x))] [(.b 0,mO p (mg m x))]) ?_ ?_
          ·refine em [] trivial ⟨cq,cq,tt⟩ ⟨obs rfl (hg:=q0 (ah (by rw [ec]))),tt⟩
          refine drs [⟨true,[.b 0],.tup [],[mO p (bJ (mg m x) x.a (jM (qO m.s x.b==0)))]⟩] rfl ?_ ?_
          ·have ev:(mg m x).val=jM (qO m.s x.b==0):=by rw [ec]
           have hq:=lW p (mg m x) x.a (jM (qO m.s x.b==0)) (Ae h x) (by omega);have hk1:=bF [.b 0] p (mg m x)
           have hk2:=bF (bs 1) p (bJ (mg m x) x.a (jM (qO m.s x.b==0)));rw [← ev]at hq hk2 ⊢;exact au
          refine sg rfl ?_;refine WP.ret ?_;change Fin ..;have er:aX m x=(bJ (mg m x) x.a (jM (qO m.s x.b==0)),true):=by simp only [aX,e];rfl
          rw [er];exact aJ hT [] (ts:=[(4,.bool true)]) (l:=[.bool true]) trivial ⟨cq,tt⟩ ⟨obs rfl (hg:=q0 (ah (iw _ _ _))),tt⟩ rfl rfl rfl
        ·have e57:x.op≠57:=by simpa using h28
         refine sg rfl ?_;refine WP.ret ?_;change Fin ..;have er:aX m x=(m,false):=by rw [aX,if_neg e50,if_neg e51,if_neg e52,if_neg e53,if_neg e54,if_neg e55,if_neg e56,if_neg e57]
         rw [er];exact aJ hT [] (ts:=[(4,.bool false)]) (l:=[.bool false]) trivial ⟨cq,tt⟩ ⟨obs rfl,tt⟩ rfl rfl rfl
def EY (g:PGo) (c:Int) (k:Nat):List Int:=(List.range 8).map fun i=>if i<k then bZ g (c+i)else 0
theorem Eb (g:PGo) (c:Int) (k:Nat):(EY g c k).length=8:=by simp [EY]
theorem KQ {g:PGo} {c:Int} {k:Nat} (h:k<8):(EY g c k).set k (bZ g (c+k))=EY g c (k+1):=by
 refine List.ext_getElem (by simp [EY]) fun i h1 h2=>?_;have hi:i<8:=by simpa [EY]using h2
 rw [List.getElem_set];simp only [EY,List.getElem_map,List.getElem_range];split
 ·subst_vars;rw [if_pos (by omega)]
 ·by_cases e:i<k
  ·rw [if_pos e,if_pos (by omega)]
  ·rw [if_neg e,if_neg (by omega)]
def pW (g:PGo) (x:jR) (k:Nat):PGo:={ status:=1,func:=x.b,pc:=0,why:=0,regs:=EY g x.c k}
abbrev wZ (p:ay) (x:jR):Int:=(p.funcs.getD x.b.toNat mD).params
def iW (p:ay) (m:PM) (x:jR):PM:={ m with s:={ m.s with gos:=m.s.gos.set m.s.count.toNat (pW (aQ m) x (wZ p x).toNat),count:=m.s.count+1},val:=m.s.count}
def iE (p:ay) (m:PM) (x:jR):PM×Int:=if m.s.count=6 then (jZ m 8,-1)else (bJ (iW p m x) x.a m.s.count,m.s.count)
theorem xq {p:ay} {m:PM} (h:OkM m) (x:jR):OkM (iW p m x):=⟨⟨h.s.vars,h.s.owner,h.s.chans,by show (m.s.gos.set _ _).length=6;rw [List.length_set];exact h.s.gos,h.s.ch,fun g hg=>by
 rcases List.mem_or_eq_of_mem_set hg with h1 | h1
 ·exact h.s.go g h1
 ·rw [h1];exact Eb _ _ _⟩,h.g⟩
theorem F5 {p:ay} {m:PM} (h:OkM m) (x:jR):OkM (iE p m x).1:=by
 unfold iE;split
 ·exact tN h 8
 ·exact mM (xq h x) _ _
theorem V9 (g:PGo) (x:jR):((T 59).zero.put [0] (.int 1)).put [1] (.int x.b)=bP (pW g x 0):=by
 rw [E5,dV,show (bP { go0 with status:=1}).put [1] (.int x.b)=bP { go0 with status:=1,func:=x.b}from bG (Nat.le_of_ble_eq_true rfl)];rfl
theorem SA (p:ay) (m:PM) (F:iL) (x:jR) (h:OkM m) (hp:qV p) (hF:Dw p F) (hi:MK p F x) (e62:x.op=62) (hct:0≤m.s.count∧m.s.count≤6):AC Tryz.prog T bn 232 [.ptr (.b 0) 1 0 [],aP x] [mO p m] (.int (iE p m x).2) [mO p (iE p m x).1]:=by
 refine aA hT Tryz.func232 rfl rfl (Nat.le_of_ble_eq_true rfl) ?_;have hr:=hF.regs
 have hs:=hi.spawn e62;have hfl:=hp.funcs
 simp only [lq,bQ]at hs;have hgf:p.funcs.getD x.b.toNat mD∈p.funcs:=by rw [List.getD_eq_getElem?_getD,List.getElem?_eq_getElem (show x.b.toNat<p.funcs.length by omega)];exact List.getElem_mem _
 have hpr:=(hp.fn _ hgf).pars;have hpr8:=(hp.fn _ hgf).regs
 have hpc:(wZ p x=0∧x.c=0)∨0<wZ p x∧0≤x.c∧x.c+wZ p x≤F.regs:=by
  have h1:=hs.2.2 _ rfl;rcases h1 with h1 | h1
  ·exact .inl h1
  ·refine .inr ⟨h1.1,h1.2.1,?_⟩;have h2:=h1.2.2
   rw [bC (by omega) (by omega)]at h2;show x.c+(p.funcs.getD x.b.toNat mD).params≤F.regs
   omega
 have hp8:0≤wZ p x∧wZ p x≤8:=by show 0≤(p.funcs.getD x.b.toNat mD).params∧(p.funcs.getD x.b.toNat mD).params≤8;omega
 have hg6:=h.s.gos;have hgg:=h.g
 refine sg rfl ?_;refine sq (sq ?_);refine WP.ent (st':=aK [(0,.ptr (.b 0) 1 0 []),(3,.rp 120 (aP x))] [(.b 0,mO p m)]) ?_ ?_
 ·refine em [(.s 3 0,1)] ⟨sF,tt⟩ ⟨cq,rq,tt⟩ ⟨obs rfl,tt⟩
 refine rg [] rfl ?_;refine cd rfl (fun h1=>?_) (fun h1=>?_)
 ·have hz:m.s.count=6:=eq_of_beq h1;refine sq (rgs [⟨true,[.b 0],.tup [],[mO p (jZ m 8)]⟩] rfl ?_ ?_)
  ·have hq:=tY p m 8 h;have hk1:=bF [.b 0] p m
   have hk2:=bF (bs 1) p (jZ m 8);exact au
  refine sg rfl ?_;refine WP.ret ?_;change Fin ..;have er:iE p m x=(jZ m 8,-1):=by rw [iE,if_pos hz]
  rw [er];exact aJ hT [] (ts:=[(4,.int (-1))]) (l:=[.int (-1)]) trivial ⟨cq,tt⟩ ⟨obs rfl (hg:=q0 (ah (iw _ _ _))),tt⟩ rfl rfl rfl
 ·have hz:¬ m.s.count=6:=fun e=>absurd ((beq_iff_eq.2 e).symm.trans h1) (by decide);refine sk (sq (rg [] rfl ?_));refine sq (sq (drs [] rfl ?_ ?_))
  ·simp [-List.getD_eq_getElem?_getD,ak,under];omega
  refine bk ?_;refine WP.loop (α:=Nat) (fun k=>aK [(0,.ptr (.b 0) 1 0 []),(3,.rp 120 (aP x)),(5,.ptr (.s 5 0) 1 0 []),(28,.int (wZ p x)),(29,.int k)] [(.b 0,mO p m),(.s 5 0,.cells ⟨59,1,fun _=>bP (pW (aQ m) x k),0⟩)]) (fun k=>(k:Int)≤wZ p x) (fun k=>8 - k) ?_ ?_
  ·refine ⟨0,?_,?_⟩
   ·exact hp8.1
   ·refine em [] trivial ⟨cq,cq,cq,cq,cq,tt⟩ ⟨obs rfl,obs rfl (hg:=q0 (ah (V9 _ _))),tt⟩
  ·rintro k hk;refine sg rfl ?_;refine sq ?_;refine cd rfl (fun h6=>?_) (fun h6=>?_)
   ·have hkl:(k:Int)<wZ p x:=of_decide_eq_true h6;have hw:IntKind.i64.wrap (x.c+(k:Int))=x.c+k:=bC (by omega) (by omega)
    refine sk (sq (bk (sq (rg [] rfl ?_))));refine drs [⟨true,[.b 0],rV m,[mO p m]⟩] rfl ?_ ?_
    ·have hq:=qx p m h.g;have hk1:=bF [.b 0] p m
     have hk2:=bF (bs 1) p m;have ha:0≤IntKind.i64.wrap (x.c+(k:Int))∧IntKind.i64.wrap (x.c+(k:Int))<8:=by rw [hw];omega
     simp only [ak,under,CG.pure]
     repeat' with_reducible refine And.intro ?_ ?_
     all_goals (try with_reducible intros)
     all_goals (first | exact trivial | assumption | omega | exact hq | exact hk1 | exact hk2 | exact ha | exact ha.1 | exact ha.2 | (simp;done) | grind)
    refine rg [] rfl ?_;refine ⟨k+1,?_,?_,?_⟩
    ·omega
    ·refine em [] trivial ⟨cq,cq,cq,cq,cq,tt⟩ ⟨obs rfl (hg:=q0 (ah (iw _ _ _))),obs rfl (hg:=q0 (ah ((congrArg (fun z:Int=>(bP (pW (aQ m) x k)).put [4,(k:Int).toNat] (.int (bZ (aQ m) z))) hw).trans ((jc _ (by show (k:Int).toNat<(EY _ _ _).length;rw [Eb];omega)).trans (by simp only [Int.toNat_natCast,pW];rw [KQ (by omega)]))))),tt⟩
    ·(try simp only []);first | omega | grind
   ·have hkl:¬ (k:Int)<wZ p x:=of_decide_eq_false h6;have ek:k=(wZ p x).toNat:=by omega
    subst ek;refine xt (sq (rg [] rfl ?_));refine sq (drs [] rfl ?_ ?_)
    ·simp [-List.getD_eq_getElem?_getD,ak,under];omega
    refine sq ?_;refine WP.ent (st':=aK [(0,.ptr (.b 0) 1 0 []),(3,.rp 120 (aP x)),(7,.int m.s.count)] [(.b 0,mO p { m with s:={ m.s with gos:=m.s.gos.set m.s.count.toNat (pW (aQ m) x (wZ p x).toNat) } })]) ?_ ?_
    ·refine em [] trivial ⟨cq,cq,cq,tt⟩ ⟨obs rfl (hg:=q0 (ah (zU (lu (by omega) (TP _ _))))),tt⟩
    refine rg [] rfl ?_;refine sq ?_;have hw2:IntKind.i64.wrap (m.s.count+1)=m.s.count+1:=bC (by omega) (by omega)
    refine WP.ent (st':=aK [(0,.ptr (.b 0) 1 0 []),(3,.rp 120 (aP x)),(7,.int m.s.count)] [(.b 0,mO p { m with s:={ m.s with gos:=m.s.gos.set m.s.count.toNat (pW (aQ m) x (wZ p x).toNat),count:=m.s.count+1} })]) ?_ ?_
    ·refine em [] trivial ⟨cq,cq,cq,tt⟩ ⟨obs rfl (hg:=q0 (ah ((congrArg (fun z=>AV.put (je p { m with s:={ m.s with gos:=m.s.gos.set m.s.count.toNat (pW (aQ m) x (wZ p x).toNat) } }) [1,4] (.int z)) hw2).trans (zU (tH _ _))))),tt⟩
    refine rg [] rfl ?_;refine sq ?_;refine WP.ent (st':=aK [(0,.ptr (.b 0) 1 0 []),(3,.rp 120 (aP x)),(7,.int m.s.count)] [(.b 0,mO p (iW p m x))]) ?_ ?_
    ·refine em [] trivial ⟨cq,cq,cq,tt⟩ ⟨obs rfl (hg:=q0 (ah (jm _ _ _))),tt⟩
    refine drs [⟨true,[.b 0],.tup [],[mO p (bJ (iW p m x) x.a m.s.count)]⟩] rfl ?_ ?_
    ·have hq:=lW p (iW p m x) x.a m.s.count (xq h x) (by omega);have hk1:=bF [.b 0] p (iW p m x)
     have hk2:=bF (bs 1) p (bJ (iW p m x) x.a m.s.count);exact au
    refine sg rfl ?_;refine WP.ret ?_;change Fin ..;have er:iE p m x=(bJ (iW p m x) x.a m.s.count,m.s.count):=by rw [iE,if_neg hz]
    rw [er];exact aJ hT [] (ts:=[(4,.int m.s.count)]) (l:=[.int m.s.count]) trivial ⟨cq,tt⟩ ⟨obs rfl (hg:=q0 (ah (iw _ _ _))),tt⟩ rfl rfl rfl
theorem Gl (p:ay) (m:PM) (c x:Int) (h:OkM m) (hc:bQ c p.chans.length) (hp:qV p) (hs:jl p m.s c=true) (hlen:0≤(chI m.s c).len):AC Tryz.prog T bn 225 [.ptr (.b 0) 1 0 [],.int c,.int x] (List.map (gW (sig [.b 0] 0)) [mO p m]) (.tup []) [mO p (iK p m c x)]:=by rw [lI];exact Ug p m c x h hc hp hs hlen
theorem Gm (p:ay) (m:PM) (c:Int) (h:OkM m) (hc:0≤c∧c<4) (hlen:(chI m.s c).len≤4):AC Tryz.prog T bn 226 [.ptr (.b 0) 1 0 [],.int c] (List.map (gW (sig [.b 0] 0)) [mO p m]) (.bool (dM m c).2) [mO p (dM m c).1]:=by rw [lI];exact Uh p m c h hc hlen
def gV (p:ay) (m:PM) (q:yP) (alt:Int):PM×Int :=
 if alt=q.cases.length then (m,q.els)else
 (if (aC q alt.toNat).send=true then iK p m (aC q alt.toNat).chan (bZ (aQ m) (aC q alt.toNat).reg)else bJ (dM m (aC q alt.toNat).chan).1 (aC q alt.toNat).reg (dM m (aC q alt.toNat).chan).1.val,(aC q alt.toNat).to)
theorem Nw {p:ay} {m:PM} (h:OkM m) (q:yP) (alt:Int):OkM (gV p m q alt).1:=by
 unfold gV;split
 ·exact h
 ·show OkM (if _ then _ else _);split
  ·exact Eh h _ _
  ·exact mM (qy h _) _ _
def Y8 (s:PSt):Prop := ∀ c:Int,0≤c∧c<4→0≤(chI s c).len∧(chI s c).len≤4
theorem Rh (p:ay) (m:PM) (F:iL) (q:yP) (alt:Int) (h:OkM m) (hp:qV p) (hF:Dw p F) (hq:ZC p F q) (ha:0≤alt∧alt≤q.cases.length) (hl:Y8 m.s) (hs:alt<q.cases.length→(aC q alt.toNat).send=true→jl p m.s (aC q alt.toNat).chan=true):AC Tryz.prog T bn 231 [.ptr (.b 0) 1 0 [],fD q,.int alt] [mO p m] (.int (gV p m q alt).2) [mO p (gV p m q alt).1]:=by
 refine aA hT Tryz.func231 rfl rfl (Nat.le_of_ble_eq_true rfl) ?_;have hc4:=hp.chans
 have hr:=hF.regs;refine sg rfl ?_;refine sq (sq ?_);refine WP.ent (st':=aK [(0,.ptr (.b 0) 1 0 []),(2,.int alt),(4,.rp 103 (fD q))] [(.b 0,mO p m)]) ?_ ?_
 ·refine em [(.s 4 0,1)] ⟨sF,tt⟩ ⟨cq,cq,rq,tt⟩ ⟨obs rfl,tt⟩
 refine rg [] rfl ?_;refine cd rfl (fun h1=>?_) (fun h1=>?_)
 ·have hz:alt=q.cases.length:=eq_of_beq h1;refine sg rfl ?_;refine WP.ret ?_;change Fin ..;have er:gV p m q alt=(m,q.els):=by rw [gV,if_pos hz]
  rw [er];exact aJ hT [] (ts:=[(6,.int q.els)]) (l:=[.int q.els]) trivial ⟨cq,tt⟩ ⟨obs rfl,tt⟩ rfl rfl rfl
 ·have hz:¬ alt=q.cases.length:=fun e=>absurd ((beq_iff_eq.2 e).symm.trans h1) (by decide);have hal:alt.toNat<q.cases.length:=by omega
  have hcp:=hq.case (aC q alt.toNat) (by unfold aC;rw [List.getD_eq_getElem?_getD,List.getElem?_eq_getElem hal];exact List.getElem_mem _);have hch:=hcp.chan
  have hch4:0≤(aC q alt.toNat).chan∧(aC q alt.toNat).chan<4:=by unfold bQ at hch;omega
  refine sk (sq (rgs [] rfl ?_ ?_))
  ·simp [-List.getD_eq_getElem?_getD,ak,under];omega
  refine sq (sq ?_);refine WP.ent (st':=aK [(0,.ptr (.b 0) 1 0 []),(7,.rp 215 (mP (aC q alt.toNat)))] [(.b 0,mO p m)]) ?_ ?_
  ·refine em [(.s 7 0,1)] ⟨sF,tt⟩ ⟨cq,rq,tt⟩ ⟨obs rfl,tt⟩
  refine rg [] rfl ?_;refine cd rfl (fun h4=>?_) (fun h4=>?_)
  ·have hsd:(aC q alt.toNat).send=true:=h4;have hrg:=hcp.reg (.inl hsd)
   unfold lq at hrg;refine drs [⟨true,[.b 0],rV m,[mO p m]⟩,⟨true,[.b 0],.tup [],[mO p (iK p m (aC q alt.toNat).chan (bZ (aQ m) (aC q alt.toNat).reg))]⟩] rfl ?_ ?_
   ·have hq1:=qx p m h.g;have hk1:=bF [.b 0] p m
    have hk2:=bF (bs 1) p m;have hq2:=Gl p m (aC q alt.toNat).chan (bZ (aQ m) (aC q alt.toNat).reg) h hch hp (hs (by omega) hsd) (hl _ hch4).1
    have hk3:=bF (bs 1) p (iK p m (aC q alt.toNat).chan (bZ (aQ m) (aC q alt.toNat).reg));have hx:∀ σ:Id→Id,Ob.cells ⟨263,1,fun _=>ren σ (je p m),0⟩=mO p m:=fun σ=>by rw [iw]
    simp only [gW,hx];exact au
   refine sg rfl ?_;refine WP.ret ?_;change Fin ..;have er:gV p m q alt=(iK p m (aC q alt.toNat).chan (bZ (aQ m) (aC q alt.toNat).reg),(aC q alt.toNat).to):=by rw [gV,if_neg hz,if_pos hsd]
   rw [er];exact aJ hT [] (ts:=[(6,.int (aC q alt.toNat).to)]) (l:=[.int (aC q alt.toNat).to]) trivial ⟨cq,tt⟩ ⟨obs rfl (hg:=q0 (ah (iw _ _ _))),tt⟩ rfl rfl rfl
  ·have hsd:¬ (aC q alt.toNat).send=true:=fun e=>absurd (h4.symm.trans e) (by decide);have hrg:(aC q alt.toNat).reg<8:=by
    by_cases e:(aC q alt.toNat).reg = -1
    ·omega
    ·have:=hcp.reg (.inr e);unfold lq at this;omega
   refine sq (rgs [⟨true,[.b 0],.bool (dM m (aC q alt.toNat).chan).2,[mO p (dM m (aC q alt.toNat).chan).1]⟩] rfl ?_ ?_)
   ·have hq1:=Gm p m (aC q alt.toNat).chan h hch4 (hl _ hch4).2;have hk1:=bF [.b 0] p m
    have hk2:=bF (bs 1) p (dM m (aC q alt.toNat).chan).1;exact au
   refine WP.ent (st':=aK [(0,.ptr (.b 0) 1 0 []),(7,.rp 215 (mP (aC q alt.toNat)))] [(.b 0,mO p (dM m (aC q alt.toNat).chan).1)]) ?_ ?_
   ·refine em [] trivial ⟨cq,cq,tt⟩ ⟨obs rfl (hg:=q0 (ah (iw _ _ _))),tt⟩
   refine drs [⟨true,[.b 0],.tup [],[mO p (bJ (dM m (aC q alt.toNat).chan).1 (aC q alt.toNat).reg (dM m (aC q alt.toNat).chan).1.val)]⟩] rfl ?_ ?_
   ·have hq1:=lW p (dM m (aC q alt.toNat).chan).1 (aC q alt.toNat).reg (dM m (aC q alt.toNat).chan).1.val (qy h _) hrg;have hk1:=bF [.b 0] p (dM m (aC q alt.toNat).chan).1
    have hk2:=bF (bs 1) p (bJ (dM m (aC q alt.toNat).chan).1 (aC q alt.toNat).reg (dM m (aC q alt.toNat).chan).1.val);exact au
   refine sg rfl ?_;refine WP.ret ?_;change Fin ..;have er:gV p m q alt=(bJ (dM m (aC q alt.toNat).chan).1 (aC q alt.toNat).reg (dM m (aC q alt.toNat).chan).1.val,(aC q alt.toNat).to):=by rw [gV,if_neg hz,if_neg hsd]
   rw [er];exact aJ hT [] (ts:=[(6,.int (aC q alt.toNat).to)]) (l:=[.int (aC q alt.toNat).to]) trivial ⟨cq,tt⟩ ⟨obs rfl (hg:=q0 (ah (iw _ _ _))),tt⟩ rfl rfl rfl
theorem FH {m:PM} {x:jR} (h:(aX m x).2=false):(aX m x).1=m∧(x.op≠50∧x.op≠51∧x.op≠52∧x.op≠53∧x.op≠54∧x.op≠55∧x.op≠56∧x.op≠57):=by
 unfold aX at h ⊢;by_cases h0:x.op=50
 ·rw [if_pos h0]at h;cases h
 rw [if_neg h0]at h ⊢;by_cases h1:x.op=51
 ·rw [if_pos h1]at h;cases h
 rw [if_neg h1]at h ⊢;by_cases h2:x.op=52
 ·rw [if_pos h2]at h;cases h
 rw [if_neg h2]at h ⊢;by_cases h3:x.op=53
 ·rw [if_pos h3]at h;cases h
 rw [if_neg h3]at h ⊢;by_cases h4:x.op=54
 ·rw [if_pos h4]at h;cases h
 rw [if_neg h4]at h ⊢;by_cases h5:x.op=55
 ·rw [if_pos h5]at h;cases h
 rw [if_neg h5]at h ⊢;by_cases h6:x.op=56
 ·rw [if_pos h6]at h;split at h <;> cases h
 rw [if_neg h6]at h ⊢;by_cases h7:x.op=57
 ·rw [if_pos h7]at h;cases h
 rw [if_neg h7];exact ⟨rfl,h0,h1,h2,h3,h4,h5,h6,h7⟩
def vN (p:ay) (m:PM) (x:jR) (alt:Int):PM×Int×Int :=
 if (aX m x).2=true then ((aX m x).1,(aQ m).pc+1,-1)else
 if x.op=58 then (iK p m x.a (bZ (aQ m) x.b),(aQ m).pc+1,-1)else
 if x.op=59 then (bJ (bJ (dM m x.b).1 x.a (dM m x.b).1.val) x.c (jM (dM m x.b).2),(aQ m).pc+1,-1)else
 if x.op=66 then (pq m x.a,(aQ m).pc+1,-1)else if x.op=60 then (nX m x.a,(aQ m).pc+1,-1)else
 if x.op=61 then ((gV p m (aU (dN p (aQ m)) x.a.toNat) alt).1,(gV p m (aU (dN p (aQ m)) x.a.toNat) alt).2,-1)else
 if x.op=62 then ((iE p m x).1,(aQ m).pc+1,(iE p m x).2)else
 if x.op=63 then (if iV m.s m.g (bZ (aQ m) x.a)=true then cO m (bZ (aQ m) x.a)else jZ (cO m (bZ (aQ m) x.a)) 7,(aQ m).pc+1,-1)else
 if x.op=65 then (cO m (bZ (aQ m) x.a),(aQ m).pc+1,-1)else (m,(aQ m).pc+1,-1)
theorem pX {p:ay} {s:PSt} {q:yP} {x:Int}:∀ {k:Nat},x∈dZ p s q k ↔ ∃ j:Nat,j<k∧x=j∧xM p s (aC q j)=true
 | 0=>by simp [dZ]
 | k+1=>by
  rw [dZ,kS];constructor
  ·intro h;split at h
   ·rename_i hb;rcases List.mem_append.1 h with h | h
    ·obtain ⟨j,h1,h2,h3⟩:=pX.1 h;exact ⟨j,by omega,h2,h3⟩
    ·exact ⟨k,by omega,by simpa using h,hb⟩
   ·obtain ⟨j,h1,h2,h3⟩:=pX.1 h;exact ⟨j,by omega,h2,h3⟩
  ·rintro ⟨j,h1,h2,h3⟩;by_cases e:j=k
   ·subst e;rw [if_pos h3];simp [h2]
   ·have:x∈dZ p s q k:=(pX (k:=k)).2 ⟨j,by omega,h2,h3⟩;split
    ·exact List.mem_append_left _ this
    ·exact this
theorem wK {p:ay} {s:PSt} {g alt:Int} (ha:alt∈kU p s g) (h:(atI p s g).op≠61):gY p s g=true∧alt=0:=by
 rw [kU,if_pos h]at ha;split at ha
 ·rename_i hr;exact ⟨hr,by simpa using ha⟩
 ·cases ha
theorem zk {p:ay} {s:PSt} {g alt:Int} (ha:alt∈kU p s g) (h:(atI p s g).op=61):(0≤alt∧alt≤(dK p s g).cases.length)∧(alt<(dK p s g).cases.length→xM p s (aC (dK p s g) alt.toNat)=true):=by
 rw [kU,if_neg (by simp [h]),kS]at ha;have key:alt∈dZ p s (dK p s g) (dK p s g).cases.length→(0≤alt∧alt≤(dK p s g).cases.length)∧(alt<(dK p s g).cases.length→xM p s (aC (dK p s g) alt.toNat)=true):=fun hm=>by
  obtain ⟨j,h1,h2,h3⟩:=pX.1 hm;exact ⟨by omega,fun _=>by rw [h2,Int.toNat_natCast];exact h3⟩
 split at ha
 ·rcases List.mem_append.1 ha with h1 | h1
  ·exact key h1
  ·have h2:alt=(dK p s g).cases.length:=by simpa using h1
   exact ⟨by omega,fun h3=>by omega⟩
 ·exact key ha
theorem Qe {p:ay} {s:PSt} (hv:dw p s):Y8 s:=fun c hc=>by
 have hp:=jg hv.1;have h1:=hv.2.2.2.2.2.1 c.toNat (by omega)
 by_cases h2:c.toNat<p.chans.length
 ·have h3:=(h1.1 h2).1.1;have h4:=hp.caps (BO p c.toNat) (by simp [BO,h2])
  exact ⟨h3.1,Int.le_trans h3.2 h4.2⟩
 ·have h3:=h1.2 (by omega);have e:chI s c=ch0:=h3
  rw [e];decide
def jE (s:PSt) (g n:Int):PM:=⟨s,g,n,0,false⟩
theorem Zv (p:ay) (s:PSt) (g n alt:Int) (h:dR p s g) (ha:alt∈kU p s g):AC Tryz.prog T bn 161 [.ptr (.b 0) 1 0 [],aP (atI p s g),.int alt] [mO p (jE s g n)] (.tup [.int (vN p (jE s g n) (atI p s g) alt).2.1,.int (vN p (jE s g n) (atI p s g) alt).2.2]) [mO p (vN p (jE s g n) (atI p s g) alt).1]:=by
 refine aA hT Tryz.func161 rfl rfl (Nat.le_of_ble_eq_true rfl) ?_;have hp:=h.prog
 have hF:=h.fn;have hat:=h.at
 have hr:=hF.regs;have hc4:=hp.chans
 have hi:(atI p s g).op≠66→MK p (dN p (goI s g)) (atI p s g):=fun e=>by rw [hat.ins e];exact h.ins
 have hok:OkM (jE s g n):=⟨h.ok,h.pos⟩;have hlens:=Qe h.valid
 have hpc:=h.fit.2.2.1;have hcl:=hF.code
 unfold bQ at hpc;have hw:IntKind.i64.wrap ((goI s g).pc+1)=(goI s g).pc+1:=bC (by omega) (by omega)
 obtain ⟨m,hm⟩:∃ m,jE s g n=m:=⟨_,rfl⟩;have hms:m.s=s:=by rw [← hm];rfl
 have hmg:m.g=g:=by rw [← hm];rfl
 have hmo:aQ m=goI s g:=by rw [← hm];rfl
 obtain ⟨x,hx⟩:∃ x,atI p s g=x:=⟨_,rfl⟩;rw [hm]at hok ⊢;rw [hx]at hi ⊢;rw [← hmo]at hw;have h8:(aQ m).regs.length=8:=fJ hok.s _
 refine sg rfl ?_;refine sq ?_;refine WP.ent (st':=aK [(0,.ptr (.b 0) 1 0 []),(2,.int alt),(4,.rp 120 (aP x))] [(.b 0,mO p m)]) ?_ ?_
 ·refine em [(.s 4 0,1)] ⟨sF,tt⟩ ⟨cq,cq,rq,tt⟩ ⟨obs rfl,tt⟩
 refine rgs [⟨true,[.b 0],rV m,[mO p m]⟩] rfl ?_ ?_
 ·have hq:=qx p m hok.g;have hk1:=bF [.b 0] p m
  have hk2:=bF (bs 1) p m;exact au
 refine sq (sq ?_);refine WP.ent (st':=aK [(0,.ptr (.b 0) 1 0 []),(2,.int alt),(4,.rp 120 (aP x)),(6,.int ((aQ m).pc+1)),(7,.int (-1))] [(.b 0,mO p m)]) ?_ ?_
 ·refine em [] trivial ⟨cq,cq,cq,⟨rfl,_,rfl,ah (congrArg AV.int hw)⟩,cq,tt⟩ ⟨obs rfl (hg:=q0 (ah (iw _ _ _))),tt⟩
 refine rgs [⟨true,[.b 0],.bool (aX m x).2,[mO p (aX m x).1]⟩] rfl ?_ ?_
 ·have hq:AC Tryz.prog T bn 224 [.ptr (.b 0) 1 0 [],aP x] (List.map (gW (sig [.b 0] 0)) [mO p m]) (.bool (aX m x).2) [mO p (aX m x).1]:=by rw [lI];exact OE p m _ x hok hp hF hi
  have hk1:=bF [.b 0] p m;have hk2:=bF (bs 1) p (aX m x).1
  have hz:ren (sig [.b 0] 0) (aP x)=aP x:=bg (fun q=>by match q with | 0 | 1 | 2 | 3 | 4 | q+5=>rfl);rw [← hz]at hq;exact au
 refine cd rfl (fun h2=>?_) (fun h2=>?_)
 ·have hs2:(aX m x).2=true:=h2;refine sg rfl ?_;refine WP.ret ?_;change Fin ..;have er:vN p m x alt=((aX m x).1,(aQ m).pc+1,-1):=by rw [vN,if_pos hs2]
  rw [er];exact aJ hT [] (ts:=[(6,.int ((aQ m).pc+1)),(7,.int (-1))]) (l:=[.int ((aQ m).pc+1),.int (-1)]) trivial ⟨cq,cq,tt⟩ ⟨obs rfl (hg:=q0 (ah (iw _ _ _))),tt⟩ rfl rfl rfl
 ·have hs2:(aX m x).2=false:=h2;obtain ⟨hsm,hn0,hn1,hn2,hn3,hn4,hn5,hn6,hn7⟩:=FH hs2;have hs3:¬ (aX m x).2=true:=by rw [hs2];decide
  refine sk (sq ?_);refine WP.ent (st':=aK [(0,.ptr (.b 0) 1 0 []),(2,.int alt),(4,.rp 120 (aP x)),(6,.int ((aQ m).pc+1)),(7,.int (-1))] [(.b 0,mO p m)]) ?_ ?_
  ·refine em [] trivial ⟨cq,cq,cq,cq,cq,tt⟩ ⟨obs rfl (hg:=q0 (ah ((iw _ _ _).trans (by rw [hsm])))),tt⟩
  refine rgs [⟨true,[.b 0],rV m,[mO p m]⟩] rfl ?_ ?_
  ·have hq:=qx p m hok.g;have hk1:=bF [.b 0] p m
   have hk2:=bF (bs 1) p m;exact au
  refine sq (sq ?_);refine WP.ent (st':=aK [(0,.ptr (.b 0) 1 0 []),(2,.int alt),(4,.rp 120 (aP x)),(6,.int ((aQ m).pc+1)),(7,.int (-1)),(8,.rp 52 (o7 52 8 .i64 (aQ m).regs))] [(.b 0,mO p m)]) ?_ ?_
  ·refine em [(.s 8 0,1)] ⟨sF,tt⟩ ⟨cq,cq,cq,cq,cq,rq,tt⟩ ⟨obs rfl (hg:=q0 (ah (iw _ _ _))),tt⟩
  refine rg [] rfl ?_;refine bk (sq (rg [] rfl ?_));refine cd rfl (fun h6=>?_) (fun h6=>?_)
  ·have e:x.op=58:=by simpa using h6
   have hb:=hat.send;rw [hx]at hb;have hb:=hb (.inl e)
   have hsd:jl p m.s x.a=true:=by
    have h1:=(wK ha (by rw [hx];omega)).1;unfold gY at h1;rw [hx]at h1;simp only [e]at h1;rw [hms];exact h1
   have hxr:=((hi (by omega)).send e).2;have hba:=hb
   unfold lq at hxr;unfold bQ at hba;refine drs [⟨true,[.b 0],.tup [],[mO p (iK p m x.a (bZ (aQ m) x.b))]⟩] rfl ?_ ?_
   ·have hq:=Gl p m x.a (bZ (aQ m) x.b) hok hb hp hsd (by rw [hms];exact (hlens x.a (by omega)).1);have hk1:=bF [.b 0] p m
    have hk2:=bF (bs 1) p (iK p m x.a (bZ (aQ m) x.b));exact au
   refine sg rfl ?_;refine WP.ret ?_;change Fin ..;have er:vN p m x alt=(iK p m x.a (bZ (aQ m) x.b),(aQ m).pc+1,-1):=by simp only [vN,hs2,e];rfl
   rw [er];exact aJ hT [] (ts:=[(6,.int ((aQ m).pc+1)),(7,.int (-1))]) (l:=[.int ((aQ m).pc+1),.int (-1)]) trivial ⟨cq,cq,tt⟩ ⟨obs rfl (hg:=q0 (ah (iw _ _ _))),tt⟩ rfl rfl rfl
  ·have e58:x.op≠58:=by simpa using h6
   refine sg rfl ?_;refine cd rfl (fun h8=>?_) (fun h8=>?_)
   ·have e:x.op=59:=by simpa using h8
    have hxr:=(hi (by omega)).recv e;simp only [lq,bQ]at hxr;refine sq (rgs [⟨true,[.b 0],.bool (dM m x.b).2,[mO p (dM m x.b).1]⟩] rfl ?_ ?_)
    ·have hq:=Gm p m x.b hok (by omega) (by rw [hms];exact (hlens x.b (by omega)).2);have hk1:=bF [.b 0] p m
     have hk2:=bF (bs 1) p (dM m x.b).1;exact au
    refine sq ?_;refine WP.ent (st':=aK [(0,.ptr (.b 0) 1 0 []),(4,.rp 120 (aP x)),(6,.int ((aQ m).pc+1)),(7,.int (-1)),(9,.bool (dM m x.b).2)] [(.b 0,mO p (dM m x.b).1)]) ?_ ?_
    ·refine em [] trivial ⟨cq,cq,cq,cq,cq,tt⟩ ⟨obs rfl (hg:=q0 (ah (iw _ _ _))),tt⟩
    refine drs [⟨true,[.b 0],.tup [],[mO p (bJ (dM m x.b).1 x.a (dM m x.b).1.val)]⟩] rfl ?_ ?_
    ·have hq:=lW p (dM m x.b).1 x.a (dM m x.b).1.val (qy hok _) (by omega);have hk1:=bF [.b 0] p (dM m x.b).1
     have hk2:=bF (bs 1) p (bJ (dM m x.b).1 x.a (dM m x.b).1.val);exact au
    refine WP.ent (st':=aK [(0,.ptr (.b 0) 1 0 []),(4,.rp 120 (aP x)),(6,.int ((aQ m).pc+1)),(7,.int (-1)),(9,.bool (dM m x.b).2)] [(.b 0,mO p (bJ (dM m x.b).1 x.a (dM m x.b).1.val))]) ?_ ?_
    ·refine em [] trivial ⟨cq,cq,cq,cq,cq,tt⟩ ⟨obs rfl (hg:=q0 (ah (iw _ _ _))),tt⟩
    refine drs [CG.pure (.int (jM (dM m x.b).2)),⟨true,[.b 0],.tup [],[mO p (bJ (bJ (dM m x.b).1 x.a (dM m x.b).1.val) x.c (jM (dM m x.b).2))]⟩] rfl ?_ ?_
    ·have hq0:=Aj (dM m x.b).2;have hq:=lW p (bJ (dM m x.b).1 x.a (dM m x.b).1.val) x.c (jM (dM m x.b).2) (mM (qy hok _) _ _) (by omega)
     have hk1:=bF [.b 0] p (bJ (dM m x.b).1 x.a (dM m x.b).1.val);have hk2:=bF (bs 1) p (bJ (bJ (dM m x.b).1 x.a (dM m x.b).1.val) x.c (jM (dM m x.b).2))
     exact au
    refine sg rfl ?_;refine WP.ret ?_;change Fin ..;have er:vN p m x alt=(bJ (bJ (dM m x.b).1 x.a (dM m x.b).1.val) x.c (jM (dM m x.b).2),(aQ m).pc+1,-1):=by simp only [vN,hs2,e];rfl
    rw [er];exact aJ hT [] (ts:=[(6,.int ((aQ m).pc+1)),(7,.int (-1))]) (l:=[.int ((aQ m).pc+1),.int (-1)]) trivial ⟨cq,cq,tt⟩ ⟨obs rfl (hg:=q0 (ah (iw _ _ _))),tt⟩ rfl rfl rfl
   ·have e59:x.op≠59:=by simpa using h8
    refine sg rfl ?_;refine cd rfl (fun h12=>?_) (fun h12=>?_)
    ·have e:x.op=66:=by simpa using h12
     have hb:=hat.send;rw [hx]at hb;have hba:=hb (.inr (.inr e))
     unfold bQ at hba;refine rgs [⟨true,[.b 0],.tup [],[mO p (pq m x.a)]⟩] rfl ?_ ?_
     ·have hq:AC Tryz.prog T bn 229 [.ptr (.b 0) 1 0 [],.int x.a] (List.map (gW (sig [.b 0] 0)) [mO p m]) (.tup []) [mO p (pq m x.a)]:=by rw [lI];exact P9 p m x.a hok (by omega)
      have hk1:=bF [.b 0] p m;have hk2:=bF (bs 1) p (pq m x.a)
      exact au
     refine sg rfl ?_;refine WP.ret ?_;change Fin ..;have er:vN p m x alt=(pq m x.a,(aQ m).pc+1,-1):=by simp only [vN,hs2,e];rfl
     rw [er];exact aJ hT [] (ts:=[(6,.int ((aQ m).pc+1)),(7,.int (-1))]) (l:=[.int ((aQ m).pc+1),.int (-1)]) trivial ⟨cq,cq,tt⟩ ⟨obs rfl (hg:=q0 (ah (iw _ _ _))),tt⟩ rfl rfl rfl
    ·have e66:x.op≠66:=by simpa using h12
     refine sg rfl ?_;refine cd rfl (fun h14=>?_) (fun h14=>?_)
     ·have e:x.op=60:=by simpa using h14
      have hb:=hat.send;rw [hx]at hb;have hba:=hb (.inr (.inl e))
      unfold bQ at hba;refine rgs [⟨true,[.b 0],.tup [],[mO p (nX m x.a)]⟩] rfl ?_ ?_
      ·have hq:AC Tryz.prog T bn 230 [.ptr (.b 0) 1 0 [],.int x.a] (List.map (gW (sig [.b 0] 0)) [mO p m]) (.tup []) [mO p (nX m x.a)]:=by rw [lI];exact Ue p m x.a hok (by omega)
       have hk1:=bF [.b 0] p m;have hk2:=bF (bs 1) p (nX m x.a)
       exact au
      refine sg rfl ?_;refine WP.ret ?_;change Fin ..;have er:vN p m x alt=(nX m x.a,(aQ m).pc+1,-1):=by simp only [vN,hs2,e];rfl
      rw [er];exact aJ hT [] (ts:=[(6,.int ((aQ m).pc+1)),(7,.int (-1))]) (l:=[.int ((aQ m).pc+1),.int (-1)]) trivial ⟨cq,cq,tt⟩ ⟨obs rfl (hg:=q0 (ah (iw _ _ _))),tt⟩ rfl rfl rfl
     ·have e60:x.op≠60:=by simpa using h14
      refine sg rfl ?_;refine cd rfl (fun h16=>?_) (fun h16=>?_)
      ·have e:x.op=61:=by simpa using h16
       have hse:=h.sel (by rw [hx];exact e);have hca:=zk ha (by rw [hx];exact e)
       simp only [dK,hx]at hse hca;rw [← hmo]at hse hca;have hb1:=hse.1
       have hb2:=h.fit.2.1;rw [← hmo]at hb2;unfold bQ at hb1 hb2;refine drs [⟨true,[.b 0],rV m,[]⟩,⟨true,[.b 0],.int (gV p m (aU (dN p (aQ m)) x.a.toNat) alt).2,[mO p (gV p m (aU (dN p (aQ m)) x.a.toNat) alt).1]⟩] rfl ?_ ?_
       ·have hq1:AC Tryz.prog T bn 162 [.ptr (.b 0) 1 0 []] (List.map (gW (sig [.b 0] 0)) [mO p m]) (rV m) (List.map (gW (sig [.b 0] 0)) [mO p m]):=by rw [lI];exact PU p m hok.g
        have hk0:List.map (gW (tau [.b 0])) (List.map (gW (sig [.b 0] 0)) [mO p m])=[mO p m]:=by rw [lI,lI]
        have hk1:=bF [.b 0] p m;have hk2:oG (bs 1) (List.map (gW (sig [.b 0] 0)) [mO p m]):=by rw [lI];exact bF _ p m
        have hq2:AC Tryz.prog T bn 231 [.ptr (.b 0) 1 0 [],ren (sig [.b 0] 0) (fD (aU (dN p (aQ m)) x.a.toNat)),.int alt] (List.map (gW (sig [.b 0] 0)) [mO p m]) (.int (gV p m (aU (dN p (aQ m)) x.a.toNat) alt).2) [mO p (gV p m (aU (dN p (aQ m)) x.a.toNat) alt).1]:=by
         have hz:ren (sig [.b 0] 0) (fD (aU (dN p (aQ m)) x.a.toNat))=fD (aU (dN p (aQ m)) x.a.toNat):=bg (fun q=>by match q with | 0 | 1 | q+2=>rfl);rw [lI,hz];refine Rh p m (dN p (aQ m)) _ alt hok hp (by rw [hmo];exact hF) hse.2 hca.1 (by rw [hms];exact hlens) (fun h1 h2=>?_);have h3:=hca.2 h1
         rw [xM,h2]at h3;rw [hms];simpa using h3
        have hk3:=bF (bs 1) p (gV p m (aU (dN p (aQ m)) x.a.toNat) alt).1;simp only [dN,aQ,goI]at hb1 hb2;exact au
       refine sg rfl ?_;refine WP.ret ?_;change Fin ..;have er:vN p m x alt=((gV p m (aU (dN p (aQ m)) x.a.toNat) alt).1,(gV p m (aU (dN p (aQ m)) x.a.toNat) alt).2,-1):=by simp only [vN,hs2,e];rfl
       rw [er];exact aJ hT [] (ts:=[(6,.int ((gV p m (aU (dN p (aQ m)) x.a.toNat) alt).2)),(7,.int (-1))]) (l:=[.int ((gV p m (aU (dN p (aQ m)) x.a.toNat) alt).2),.int (-1)]) trivial ⟨cq,cq,tt⟩ ⟨obs rfl (hg:=q0 (ah (iw _ _ _))),tt⟩ rfl rfl rfl
      ·have e61:x.op≠61:=by simpa using h16
       refine sg rfl ?_;refine cd rfl (fun h18=>?_) (fun h18=>?_)
       ·have e:x.op=62:=by simpa using h18
        refine rgs [⟨true,[.b 0],.int (iE p m x).2,[mO p (iE p m x).1]⟩] rfl ?_ ?_
        ·have hct:=h.valid.2.1;have hq:AC Tryz.prog T bn 232 [.ptr (.b 0) 1 0 [],aP x] (List.map (gW (sig [.b 0] 0)) [mO p m]) (.int (iE p m x).2) [mO p (iE p m x).1]:=by rw [lI];exact SA p m _ x hok hp hF (hi (by omega)) e (by rw [hms];omega)
         have hk1:=bF [.b 0] p m;have hk2:=bF (bs 1) p (iE p m x).1
         have hz:ren (sig [.b 0] 0) (aP x)=aP x:=bg (fun q=>by match q with | 0 | 1 | 2 | 3 | 4 | q+5=>rfl);rw [← hz]at hq;exact au
        refine sg rfl ?_;refine WP.ret ?_;change Fin ..;have er:vN p m x alt=((iE p m x).1,(aQ m).pc+1,(iE p m x).2):=by simp only [vN,hs2,e];rfl
        rw [er];exact aJ hT [] (ts:=[(6,.int ((aQ m).pc+1)),(7,.int ((iE p m x).2))]) (l:=[.int ((aQ m).pc+1),.int ((iE p m x).2)]) trivial ⟨cq,cq,tt⟩ ⟨obs rfl (hg:=q0 (ah (iw _ _ _))),tt⟩ rfl rfl rfl
       ·have e62:x.op≠62:=by simpa using h18
        refine sg rfl ?_;refine cd rfl (fun h20=>?_) (fun h20=>?_)
        ·have e:x.op=63:=by simpa using h20
         have hxr:=(hi (by omega)).const (by omega);unfold lq at hxr;refine sq (rgs [] rfl ?_ ?_)
         ·simp [-List.getD_eq_getElem?_getD,ak,under];omega
         refine sq ?_;refine WP.ent (st':=aK [(0,.ptr (.b 0) 1 0 []),(6,.int ((aQ m).pc+1)),(7,.int (-1))] [(.b 0,mO p (cO m (bZ (aQ m) x.a)))]) ?_ ?_
         ·refine em [] trivial ⟨cq,cq,cq,tt⟩ ⟨obs rfl (hg:=q0 (ah (jm _ _ _))),tt⟩
         refine drs [CG.pure (.bool (iV m.s m.g (bZ (aQ m) x.a)))] rfl ?_ ?_
         ·have hq:=DI m.s m.g (bZ (aQ m) x.a);exact au
         refine cd rfl (fun h22=>?_) (fun h22=>?_)
         ·have hth:¬ iV m.s m.g (bZ (aQ m) x.a)=true:=by simpa using h22
          refine rgs [⟨true,[.b 0],.tup [],[mO p (jZ (cO m (bZ (aQ m) x.a)) 7)]⟩] rfl ?_ ?_
          ·have hq:=tY p (cO m (bZ (aQ m) x.a)) 7 (fE hok _);have hk1:=bF [.b 0] p (cO m (bZ (aQ m) x.a))
           have hk2:=bF (bs 1) p (jZ (cO m (bZ (aQ m) x.a)) 7);exact au
          refine sg rfl ?_;refine WP.ret ?_;change Fin ..;have er:vN p m x alt=(jZ (cO m (bZ (aQ m) x.a)) 7,(aQ m).pc+1,-1):=by simp only [vN,hs2,e];exact congrArg (fun z=>(z,_,_)) (if_neg hth)
          rw [er];exact aJ hT [] (ts:=[(6,.int ((aQ m).pc+1)),(7,.int (-1))]) (l:=[.int ((aQ m).pc+1),.int (-1)]) trivial ⟨cq,cq,tt⟩ ⟨obs rfl (hg:=q0 (ah (iw _ _ _))),tt⟩ rfl rfl rfl
         ·have hth:iV m.s m.g (bZ (aQ m) x.a)=true:=by simpa using h22
          refine sk (sq (rg [] rfl ?_));refine WP.ret ?_;change Fin ..;have er:vN p m x alt=(cO m (bZ (aQ m) x.a),(aQ m).pc+1,-1):=by simp only [vN,hs2,e];exact congrArg (fun z=>(z,_,_)) (if_pos hth)
          rw [er];exact aJ hT [] (ts:=[(6,.int ((aQ m).pc+1)),(7,.int (-1))]) (l:=[.int ((aQ m).pc+1),.int (-1)]) trivial ⟨cq,cq,tt⟩ ⟨obs rfl (hg:=q0 (ah (rfl))),tt⟩ rfl rfl rfl
        ·have e63:x.op≠63:=by simpa using h20
         refine sg rfl ?_;refine cd rfl (fun h24=>?_) (fun h24=>?_)
         ·have e:x.op=65:=by simpa using h24
          have hxr:=(hi (by omega)).const (by omega);unfold lq at hxr;refine rgs [] rfl ?_ ?_
          ·simp [-List.getD_eq_getElem?_getD,ak,under];omega
          refine sg rfl ?_;refine WP.ret ?_;change Fin ..;have er:vN p m x alt=(cO m (bZ (aQ m) x.a),(aQ m).pc+1,-1):=by simp only [vN,hs2,e];rfl
          rw [er];exact aJ hT [] (ts:=[(6,.int ((aQ m).pc+1)),(7,.int (-1))]) (l:=[.int ((aQ m).pc+1),.int (-1)]) trivial ⟨cq,cq,tt⟩ ⟨obs rfl (hg:=q0 (ah (jm _ _ _))),tt⟩ rfl rfl rfl
         ·have e65:x.op≠65:=by simpa using h24
          refine sk (sq (rg [] rfl ?_));refine WP.ret ?_;change Fin ..;have er:vN p m x alt=(m,(aQ m).pc+1,-1):=by rw [vN,if_neg hs3,if_neg e58,if_neg e59,if_neg e66,if_neg e60,if_neg e61,if_neg e62,if_neg e63,if_neg e65]
          rw [er];exact aJ hT [] (ts:=[(6,.int ((aQ m).pc+1)),(7,.int (-1))]) (l:=[.int ((aQ m).pc+1),.int (-1)]) trivial ⟨cq,cq,tt⟩ ⟨obs rfl (hg:=q0 (ah (rfl))),tt⟩ rfl rfl rfl
def XO (L:List Int) (x:Int):Int:=if x∈L then (L.findIdx (· == x):Nat)else -1
theorem XM {L:List Int} {x:Int} {i:Nat} (hi:i<L.length) (h:L.getD i 0=x) (hn:∀ j,j<i→L.getD j 0≠x):(i:Int)=XO L x:=by
 have hm:x∈L:=by rw [← h];simp [List.getD_eq_getElem?_getD,hi]
 rw [XO,if_pos hm];congr 1;symm;rw [List.findIdx_eq hi];refine ⟨by simpa [List.getD_eq_getElem?_getD,hi]using h,fun j hj=>?_⟩;have hj':j<L.length:=by omega
 have:=hn j hj;simpa [List.getD_eq_getElem?_getD,hj']using this
theorem XL {L:List Int} {x:Int} (hn:∀ j,j<L.length→L.getD j 0≠x) : -1=XO L x:=by
 rw [XO,if_neg];intro hm;obtain ⟨j,hj,e⟩:=List.getElem_of_mem hm;exact hn j hj (by simpa [List.getD_eq_getElem?_getD,hj]using e)
theorem Um (f:Bool) (L:List Int) (x:Int):AC Tryz.prog T bn 218 [ints f L,.int x] [] (.int (XO L x)) []:=by
 refine aA hT Tryz.func218 rfl rfl (Nat.le_of_ble_eq_true rfl) ?_;refine WP.rowlen 0 rfl (fun hla=>?_);refine sg rfl ?_;refine sq (sq (rg [] rfl ?_));refine bk ?_;refine WP.loop (α:=Nat) (fun i=>aK [(0,ints f L),(1,.int x),(7,.int L.length),(8,.int i)] []) (fun i=>i≤L.length ∧ ∀ j,j<i→L.getD j 0≠x) (fun i=>L.length - i) ?_ ?_
 ·refine ⟨0,?_,?_⟩
  ·exact ⟨Nat.zero_le _,fun j hj=>by omega⟩
  ·refine em [] trivial ⟨cq,cq,cq,cq,tt⟩ trivial
 ·rintro i ⟨hi,hn⟩;refine sg rfl ?_;refine sq ?_;refine cd rfl (fun h2=>?_) (fun h2=>?_)
  ·have hil:i<L.length:=by simpa using h2
   refine sk (sq (bk (sq (rg [] rfl ?_))));refine sg rfl ?_;refine cd rfl (fun h4=>?_) (fun h4=>?_)
   ·have he:L.getD i 0=x:=by
     have e:(x==L.getD i 0)=true:=h4;simp at e;exact e.symm
    refine sg rfl ?_;exact WP.ret (cZ hT (by rfl) (XM hil he hn))
   ·have he:L.getD i 0≠x:=by
     have e:(x==L.getD i 0)=false:=h4;simp at e;exact fun h=>e h.symm
    refine sk (rg [] rfl ?_);refine ⟨i+1,?_,?_,?_⟩
    ·exact ⟨hil,all_succ (Q:=fun j=>L.getD j 0≠x) hn he⟩
    ·refine em [] trivial ⟨cq,cq,cq,cq,tt⟩ trivial
    ·(try simp only []);first | omega | grind
  ·have hil:i=L.length:=by simp at h2;omega
   subst hil;refine xt (sq (rg [] rfl ?_));exact WP.ret (cZ hT (by rfl) (XL hn))
theorem JE (f:Bool) (L:List Int) (x:Int):AC Tryz.prog T bn 159 [ints f L,.int x] [] (.bool (decide (x∈L))) []:=by
 refine aA hT Tryz.func159 rfl rfl (Nat.le_of_ble_eq_true rfl) ?_;refine sg rfl ?_;refine sq (rgs [CG.pure (.int (XO L x))] rfl ?_ ?_)
 ·have h1:=Um f L x;exact au
 refine WP.ret ?_;change Fin ..;refine fin1 hT (by rfl) ?_;apply decide_eq_decide.2;rw [XO];split
 ·rename_i h;exact ⟨fun _=>h,fun _=>by omega⟩
 ·rename_i h;exact ⟨fun h2=>by omega,fun h2=>absurd h2 h⟩
def zY (p:ay) (s:PSt) (x:bI):Prop:=(0≤x.go∧x.go<6)∧uy (goI s x.go)=true∧x.alt∈kU p s x.go
instance (p:ay) (s:PSt) (x:bI):Decidable (zY p s x):=by unfold zY;infer_instance
def yC (p:ay) (m:PM) (next made:Int):PM :=
 if m.over=true then m else if 0≤made then fF p (fF p (eP m { aQ m with pc:=next}) m.g) made else fF p (eP m { aQ m with pc:=next}) m.g
def sU (p:ay) (s:PSt) (x:bI) (n:Int):PM×Int×Int:=vN p (jE s x.go n) (atI p s x.go) x.alt
def lF (p:ay) (s:PSt) (x:bI) (val:Int):Evt:=⟨x.go,(goI s x.go).func,(goI s x.go).pc,(atI p s x.go).op,x.alt,val,if (atI p s x.go).op=65 then (atI p s x.go).n else 0,(dO p s x.go).map BT.t,(dO p s x.go).length⟩
def doF (p:ay) (s:PSt) (x:bI) (n:Int):PSt×Evt×Int :=
 if vM p s≠0 then (st0,Ey,vM p s)else if ¬ (0≤n∧n≤4096)then (st0,Ey,1)else if ¬ zY p s x then (st0,Ey,5)else
 ((yC p (sU p s x n).1 (sU p s x n).2.1 (sU p s x n).2.2).s,lF p s x (sU p s x n).1.val,0)
theorem zeroE:(T 137).zero=kF Ey:=rfl
theorem QU {l:List Tch} {t:Tch} (h:l.length<6):(X7 l).put [l.length] (yD t)=X7 (l++[t]):=bg fun j=>by
 show (bif Nat.beq j l.length then _ else _)=_;cases hz:Nat.beq j l.length with
 | true =>
  have:=Nat.eq_of_beq_eq_true hz;subst this;simp [List.getD_eq_getElem?_getD];cases t;rfl
 | false =>
  have hne:j≠l.length:=fun e=>by subst e;simp at hz
  simp only [cond_false];show yD (l.getD j ZN)=yD ((l++[t]).getD j ZN)
  rcases Nat.lt_or_ge j l.length with h1 | h1
  ·simp only [List.getD_eq_getElem?_getD,List.getElem?_append_left h1]
  ·simp only [List.getD_eq_getElem?_getD,List.getElem?_eq_none (show l.length≤j by omega),List.getElem?_eq_none (show (l++[t]).length≤j by simp;omega)]
theorem PG (e:Evt) {t:Tch} (h:e.ts.length<6):(kF e).put [7,e.ts.length] (yD t)=kF { e with ts:=e.ts++[t] }:=(bG (Nat.le_of_ble_eq_true rfl)).trans (congrArg (fun z=>cu 137 [.int e.go,.int e.a,.int e.b,.int e.op,.int e.c,.int e.val,.int e.tag,z,.int e.n]) (QU h))
theorem VE (e:Evt) (x:Int):(kF e).put [8] (.int x)=kF { e with n:=x}:=bG (Nat.le_of_ble_eq_true rfl)
theorem KN (e:Evt) (x:Int):(kF e).put [5] (.int x)=kF { e with val:=x}:=bG (Nat.le_of_ble_eq_true rfl)
theorem KO (e:Evt) (x:Int):(kF e).put [6] (.int x)=kF { e with tag:=x}:=bG (Nat.le_of_ble_eq_true rfl)
theorem QW (a b c d e:Int):(((((kF Ey).put [0] (.int a)).put [1] (.int b)).put [2] (.int c)).put [3] (.int d)).put [4] (.int e)=kF ⟨a,b,c,d,e,0,0,[],0⟩:=by
 rw [show (kF Ey).put [0] (.int a)=kF { Ey with go:=a}from bG (Nat.le_of_ble_eq_true rfl),show (kF { Ey with go:=a}).put [1] (.int b)=kF { Ey with go:=a,a:=b}from bG (Nat.le_of_ble_eq_true rfl),
  show (kF { Ey with go:=a,a:=b}).put [2] (.int c)=kF { Ey with go:=a,a:=b,b:=c}from bG (Nat.le_of_ble_eq_true rfl),show (kF { Ey with go:=a,a:=b,b:=c}).put [3] (.int d)=kF { Ey with go:=a,a:=b,b:=c,op:=d}from bG (Nat.le_of_ble_eq_true rfl),
  show (kF { Ey with go:=a,a:=b,b:=c,op:=d}).put [4] (.int e)=kF { Ey with go:=a,a:=b,b:=c,op:=d,c:=e}from bG (Nat.le_of_ble_eq_true rfl)];rfl
theorem BQ {p:ay} {s:PSt} {g:Int} (h:dR p s g):(dO p s g).length≤5:=by
 have h1:=QZ bt0 (iF (jQ p s g)) (iF (jQ p s g)).length;have h2:(iF (jQ p s g)).length=(jQ p s g).length:=pz Ot _
 have h3:=KH h;rw [dO];omega
def nD (p:ay) (s:PSt) (x:bI) (k:Nat):Evt:=⟨x.go,(goI s x.go).func,(goI s x.go).pc,(atI p s x.go).op,x.alt,0,0,((dO p s x.go).take k).map BT.t,k⟩
theorem Ei {s:PSt} (h:OkS s) {g n:Int} (hg:0≤g∧g<6):OkM (jE s g n):=⟨h,hg⟩
theorem P5 {p:ay} {m:PM} (h:OkM m) (x:jR) (alt:Int):OkM (vN p m x alt).1:=by
 unfold vN
 repeat' split
 ·exact CW h x
 ·exact Eh h _ _
 ·exact mM (mM (qy h _) _ _) _ _
 ·exact PZ h _
 ·exact KU h _
 ·exact Nw h _ _
 ·exact F5 h x
 ·exact fE h _
 ·exact tN (fE h _) _
 ·exact fE h _
 ·exact h
theorem pF {p:ay} {s:PSt} (h:OkS s) (g n:Int):OkS (bD p s g n).1:=by
 unfold bD;split
 ·exact rW
 rename_i hr;have hr:dQ p=true:=by simpa using hr
 split
 ·exact rW
 rename_i hv;have hv:dw p s:=by simpa using hv
 split
 ·exact rW
 rename_i hg;split
 ·exact rW
 rename_i hc;split
 ·have hfit:=(hv.2.2.2.2.1 g.toNat (by omega)).1 (by omega);have hF:Dw p (dN p (goI s g)):=(jg hr).fn _ (by
   rw [dN,List.getD_eq_getElem?_getD,List.getElem?_eq_getElem (show (goI s g).func.toNat<p.funcs.length by have h9:0≤(goI s g).func∧(goI s g).func<p.funcs.length:=hfit.2.1;omega)];exact List.getElem_mem _)
  exact h.eP (IU hF (g:={ goI s g with status:=1}) ⟨fJ h _,hfit.2.2.1⟩).1.1
 ·exact h
theorem UY (p:ay) (s:PSt) (g n:Int):((((T 263).zero.put [0] (aj p)).put [1] (encS s)).put [2] (.int g)).put [3] (.int n)=je p (jE s g n):=bg fun q=>by match q with | 0 | 1 | 2 | 3 | 4 | 5 | q+6=>rfl
theorem Zj (p:ay) (s:PSt) (x:bI) (n:Int) (hs:OkS s):AC Tryz.prog T bn 113 [aj p,encS s,aV x,.int n] [] (.tup [encS (doF p s x n).1,kF (doF p s x n).2.1,.int (doF p s x n).2.2]) []:=by
 refine aA hT Tryz.func113 rfl rfl (Nat.le_of_ble_eq_true rfl) ?_;refine sg rfl ?_;refine sq (sq ?_);refine WP.ent (st':=aK [(4,.rp 26 (aj p)),(5,.rp 62 (encS s)),(6,.rp 122 (aV x)),(3,.int n),(8,.ptr (.s 8 0) 1 0 []),(9,.ptr (.s 9 0) 1 0 [])] [(.s 8 0,.cells ⟨62,1,fun _=>(T 62).zero,0⟩),(.s 9 0,.cells ⟨137,1,fun _=>(T 137).zero,0⟩)]) (em [(.s 4 0,1),(.s 5 0,1),(.s 6 0,1)] ⟨sF,sF,sF,tt⟩ ⟨rq,rq,rq,cq,cq,cq,tt⟩ ⟨obs rfl,obs rfl,tt⟩) ?_;refine rgs [CG.pure (.int (vM p s))] rfl ?_ ?_
 ·have hq:=MB p s hs;exact au
 refine sg rfl ?_;refine cd rfl (fun h2=>?_) (fun h2=>?_)
 ·have ha:vM p s≠0:=by simpa using h2
  refine sg rfl ?_;refine WP.ret ?_;change Fin ..;exact wF hT rfl rfl rfl rfl rfl (ah (by rw [doF,if_pos ha];exact zeroS)) (ah (by rw [doF,if_pos ha];exact zeroE)) (by rw [doF,if_pos ha]) (hno':=nP _)
 ·have ha:¬ vM p s≠0:=by simpa using h2
  have hv:dw p s:=aam (by simpa using ha);refine sk (sq (sq (rg [] rfl ?_)));refine cd rfl (fun h4=>?_) (fun h4=>?_)
  ·have hf:¬ (0≤n∧n≤4096):=by simp only [bor]at h4;simp at h4;omega
   refine sg rfl ?_;refine WP.ret ?_;change Fin ..;exact wF hT rfl rfl rfl rfl rfl (ah (by rw [doF,if_neg ha,if_pos hf];exact zeroS)) (ah (by rw [doF,if_neg ha,if_pos hf];exact zeroE)) (by rw [doF,if_neg ha,if_pos hf]) (hno':=nP _)
  ·have hf:0≤n∧n≤4096:=by simp only [bor]at h4;simp at h4;omega
   have hf0:¬ ¬ (0≤n∧n≤4096):=fun h=>h hf;refine sk (sq (sq (drs [CG.pure (.bool (uy (goI s x.go))),CG.pure (ints false (kU p s x.go)),CG.pure (.bool (decide (x.alt∈kU p s x.go)))] rfl ?_ ?_)))
   ·have hq1:0≤x.go∧x.go<6→_:=fun h=>Kq s x.go h;have hq2:0≤x.go∧x.go<6→uy (goI s x.go)=true→_:=fun h h'=>Ry p s x.go ⟨hs,hv,h',h⟩
    have hq3:=JE false (kU p s x.go) x.alt;simp only [ak,under,CG.pure]
    repeat' with_reducible refine And.intro ?_ ?_
    all_goals (try with_reducible intros)
    all_goals (first | exact trivial | assumption | exact hq3 | (refine hq1 ?_;simp_all <;> omega) | (refine hq2 ?_ ?_ <;> simp_all <;> omega) | (simp_all;done))
   refine cd rfl (fun h6=>?_) (fun h6=>?_)
   ·have hp:¬ zY p s x:=by
     simp only [bor]at h6;intro h;have a:=h.1;have b:=h.2.1;have c:=h.2.2
     simp only [goI]at b;rw [show decide (x.go<0)=false from decide_eq_false (by omega),show decide (x.go≥6)=false from decide_eq_false (by omega),decide_eq_true c]at h6;simp [-List.getD_eq_getElem?_getD,b]at h6
    refine sg rfl ?_;refine WP.ret ?_;change Fin ..;exact wF hT rfl rfl rfl rfl rfl (ah (by rw [doF,if_neg ha,if_neg hf0,if_pos hp];exact zeroS)) (ah (by rw [doF,if_neg ha,if_neg hf0,if_pos hp];exact zeroE)) (by rw [doF,if_neg ha,if_neg hf0,if_pos hp]) (hno':=nP _)
   ·have hp:zY p s x:=by
     simp only [bor]at h6;simp [-List.getD_eq_getElem?_getD]at h6;exact ⟨by omega,by simp_all,by simp_all⟩
    have hp0:¬ ¬ zY p s x:=fun h=>h hp;have hst:dR p s x.go:=⟨hs,hv,hp.2.1,hp.1⟩
    have hgo:=hp.1;refine sk (sq (rgs [CG.pure (aP (atI p s x.go))] rfl ?_ ?_))
    ·have hq:=Vj p s x.go hst;exact au
    refine sq (drs [] rfl ?_ ?_)
    ·simp [-List.getD_eq_getElem?_getD,ak,under];omega
    refine sq (sq ?_);refine WP.ent (st':=aK [(3,.int n),(4,.rp 26 (aj p)),(5,.rp 62 (encS s)),(6,.rp 122 (aV x)),(8,.ptr (.s 8 0) 1 0 []),(9,.ptr (.s 9 0) 1 0 []),(12,.rp 120 (aP (atI p s x.go))),(13,.ptr (.s 13 0) 1 0 [])] [(.s 8 0,.cells ⟨62,1,fun _=>(T 62).zero,0⟩),(.s 9 0,.cells ⟨137,1,fun _=>(T 137).zero,0⟩),(.s 13 0,.cells ⟨137,1,fun _=>kF (nD p s x 0),0⟩)]) ?_ ?_
    ·refine em [(.s 12 0,1)] ⟨sF,tt⟩ ⟨cq,cq,cq,cq,cq,cq,rq,cq,tt⟩ ⟨obs rfl,obs rfl,obs rfl (hg:=q0 (ah (QW _ _ _ _ _))),tt⟩
    refine rgs [CG.pure (rowP 134 fH bt0 (dO p s x.go))] rfl ?_ ?_
    ·have hq:=Sm p s x.go hst;exact au
    refine bk ?_;refine WP.loop (α:=Nat) (fun k=>aK [(3,.int n),(4,.rp 26 (aj p)),(5,.rp 62 (encS s)),(6,.rp 122 (aV x)),(8,.ptr (.s 8 0) 1 0 []),(9,.ptr (.s 9 0) 1 0 []),(12,.rp 120 (aP (atI p s x.go))),(13,.ptr (.s 13 0) 1 0 []),(91,rowP 134 fH bt0 (dO p s x.go)),(92,.int (dO p s x.go).length),(93,.int k)] [(.s 8 0,.cells ⟨62,1,fun _=>(T 62).zero,0⟩),(.s 9 0,.cells ⟨137,1,fun _=>(T 137).zero,0⟩),(.s 13 0,.cells ⟨137,1,fun _=>kF (nD p s x k),0⟩)]) (fun k=>k≤(dO p s x.go).length) (fun k=>(dO p s x.go).length - k) ?_ ?_
    ·refine ⟨0,?_,?_⟩
     ·exact Nat.zero_le _
     ·refine em [] trivial ⟨cq,cq,cq,cq,cq,cq,cq,cq,cq,cq,cq,tt⟩ ⟨obs rfl,obs rfl,obs rfl,tt⟩
    ·rintro k hk;have htl:=BQ hst
     refine sg rfl ?_;refine sq ?_;refine cd rfl (fun h11=>?_) (fun h11=>?_)
     ·have hkl:k<(dO p s x.go).length:=by simp [-List.getD_eq_getElem?_getD]at h11;omega
      have htk:(nD p s x k).ts.length=k:=by show (((dO p s x.go).take k).map BT.t).length=k;rw [List.length_map,List.length_take];omega
      refine sk (sq (bk (sq (rgs [] rfl ?_ ?_))))
      ·simp [-List.getD_eq_getElem?_getD,ak,under];omega
      refine sq (rgs [] rfl ?_ ?_)
      ·have hk6:0≤(nD p s x k).n∧(nD p s x k).n<6:=by show 0≤(k:Int)∧(k:Int)<6;omega
       simp only [ak,under,CG.pure]
       repeat' with_reducible refine And.intro ?_ ?_
       all_goals (try with_reducible intros)
       all_goals (first | exact trivial | assumption | omega | exact hk6 | exact hk6.1 | exact hk6.2 | (simp;done) | grind)
      refine WP.ent (st':=aK [(3,.int n),(4,.rp 26 (aj p)),(5,.rp 62 (encS s)),(6,.rp 122 (aV x)),(8,.ptr (.s 8 0) 1 0 []),(9,.ptr (.s 9 0) 1 0 []),(12,.rp 120 (aP (atI p s x.go))),(13,.ptr (.s 13 0) 1 0 []),(91,rowP 134 fH bt0 (dO p s x.go)),(92,.int (dO p s x.go).length),(93,.int k)] [(.s 8 0,.cells ⟨62,1,fun _=>(T 62).zero,0⟩),(.s 9 0,.cells ⟨137,1,fun _=>(T 137).zero,0⟩),(.s 13 0,.cells ⟨137,1,fun _=>kF { nD p s x k with ts:=(nD p s x k).ts++[((dO p s x.go).getD k bt0).t] },0⟩)]) ?_ ?_
      ·refine em [] trivial ⟨cq,cq,cq,cq,cq,cq,cq,cq,cq,cq,cq,tt⟩ ⟨obs rfl,obs rfl,obs rfl (hg:=q0 (ah ((congrArg (fun z:Nat=>(kF (nD p s x k)).put [7,z] (yD ((dO p s x.go).getD k bt0).t)) (show ((nD p s x k).n).toNat=(nD p s x k).ts.length by rw [htk];exact Int.toNat_natCast k)).trans (PG (nD p s x k) (by omega))))),tt⟩
      refine rg [] rfl ?_;refine rg [] rfl ?_;have e2:kF { nD p s x k with ts:=(nD p s x k).ts++[((dO p s x.go).getD k bt0).t],n:=(k:Int)+1}=kF (nD p s x (k+1)):=by
       have e3:(nD p s x k).ts++[((dO p s x.go).getD k bt0).t]=(nD p s x (k+1)).ts:=by
        show ((dO p s x.go).take k).map BT.t++_=((dO p s x.go).take (k+1)).map BT.t;rw [List.take_add_one,List.getElem?_eq_getElem hkl,List.map_append];simp [hkl]
       rw [e3];rfl
      have hw:IntKind.i64.wrap ((nD p s x k).n+1)=(k:Int)+1:=bC (by show _≤(k:Int)+1;omega) (by show (k:Int)+1<_;omega);refine ⟨k+1,?_,?_,?_⟩
      ·exact hkl
      ·refine em [] trivial ⟨cq,cq,cq,cq,cq,cq,cq,cq,cq,cq,cq,tt⟩ ⟨obs rfl,obs rfl,obs rfl (hg:=q0 (ah ((congrArg (fun z:Int=>(kF { nD p s x k with ts:=(nD p s x k).ts++[((dO p s x.go).getD k bt0).t] }).put [8] (.int z)) hw).trans ((VE _ _).trans e2)))),tt⟩
      ·(try simp only []);first | omega | grind
     ·have hkl:k=(dO p s x.go).length:=by simp [-List.getD_eq_getElem?_getD]at h11;omega
      obtain ⟨ad,had⟩:∃ ad,sU p s x n=ad:=⟨_,rfl⟩;have hokA:OkM ad.1:=by rw [← had];exact P5 (Ei hs hgo) _ _
      refine xt (sq (rg [] rfl ?_));refine sq ?_;refine WP.ent (st':=aK [(4,.rp 26 (aj p)),(5,.rp 62 (encS s)),(6,.rp 122 (aV x)),(8,.ptr (.s 8 0) 1 0 []),(9,.ptr (.s 9 0) 1 0 []),(12,.rp 120 (aP (atI p s x.go))),(13,.ptr (.s 13 0) 1 0 []),(16,.ptr (.s 113 0) 1 0 [])] [(.s 8 0,.cells ⟨62,1,fun _=>(T 62).zero,0⟩),(.s 9 0,.cells ⟨137,1,fun _=>(T 137).zero,0⟩),(.s 13 0,.cells ⟨137,1,fun _=>kF (nD p s x k),0⟩),(.s 113 0,mO p (jE s x.go n))]) ?_ ?_
      ·refine em [] trivial ⟨cq,cq,cq,cq,cq,cq,cq,cq,tt⟩ ⟨obs rfl,obs rfl,obs rfl,obs rfl (hg:=q0 (ah (UY p s x.go n))),tt⟩
      refine rgs [⟨true,[.s 113 0],.tup [.int ad.2.1,.int ad.2.2],[mO p ad.1]⟩] rfl ?_ ?_
      ·have hq:AC Tryz.prog T bn 161 [.ptr (.b 0) 1 0 [],ren (sig [.s 113 0] 0) (aP (atI p s x.go)),.int x.alt] (List.map (gW (sig [.s 113 0] 0)) [mO p (jE s x.go n)]) (.tup [.int ad.2.1,.int ad.2.2]) [mO p ad.1]:=by
        have hz:ren (sig [.s 113 0] 0) (aP (atI p s x.go))=aP (atI p s x.go):=bg (fun q=>by match q with | 0 | 1 | 2 | 3 | 4 | q+5=>rfl);rw [lI,hz,← had];exact Zv p s x.go n x.alt hst hp.2.2
       have hk1:=bF [.s 113 0] p (jE s x.go n);have hk2:=bF (bs 1) p ad.1
       exact au
      refine sq ?_;refine WP.ent (st':=aK [(8,.ptr (.s 8 0) 1 0 []),(9,.ptr (.s 9 0) 1 0 []),(12,.rp 120 (aP (atI p s x.go))),(13,.ptr (.s 13 0) 1 0 []),(16,.ptr (.s 113 0) 1 0 []),(17,.int ad.2.1),(18,.int ad.2.2)] [(.s 8 0,.cells ⟨62,1,fun _=>(T 62).zero,0⟩),(.s 9 0,.cells ⟨137,1,fun _=>(T 137).zero,0⟩),(.s 13 0,.cells ⟨137,1,fun _=>kF (nD p s x k),0⟩),(.s 113 0,mO p ad.1)]) ?_ ?_
      ·refine em [] trivial ⟨cq,cq,cq,cq,cq,cq,cq,tt⟩ ⟨obs rfl,obs rfl,obs rfl,obs rfl (hg:=q0 (ah (iw _ _ _))),tt⟩
      refine rg [] rfl ?_;refine WP.seqJ (α:=Unit) (fun _=>aK [(8,.ptr (.s 8 0) 1 0 []),(9,.ptr (.s 9 0) 1 0 []),(13,.ptr (.s 13 0) 1 0 []),(16,.ptr (.s 113 0) 1 0 []),(17,.int ad.2.1),(18,.int ad.2.2)] [(.s 8 0,.cells ⟨62,1,fun _=>(T 62).zero,0⟩),(.s 9 0,.cells ⟨137,1,fun _=>(T 137).zero,0⟩),(.s 13 0,.cells ⟨137,1,fun _=>kF (lF p s x ad.1.val),0⟩),(.s 113 0,mO p ad.1)]) (fun _=>True) ?_ ?_
      ·refine sq ?_;have ee:∀ t:Int,kF { nD p s x k with val:=ad.1.val,tag:=t}=kF ⟨x.go,(goI s x.go).func,(goI s x.go).pc,(atI p s x.go).op,x.alt,ad.1.val,t,(dO p s x.go).map BT.t,(dO p s x.go).length⟩:=fun t=>by
        rw [nD,hkl,List.take_length]
       refine WP.ent (st':=aK [(8,.ptr (.s 8 0) 1 0 []),(9,.ptr (.s 9 0) 1 0 []),(12,.rp 120 (aP (atI p s x.go))),(13,.ptr (.s 13 0) 1 0 []),(16,.ptr (.s 113 0) 1 0 []),(17,.int ad.2.1),(18,.int ad.2.2)] [(.s 8 0,.cells ⟨62,1,fun _=>(T 62).zero,0⟩),(.s 9 0,.cells ⟨137,1,fun _=>(T 137).zero,0⟩),(.s 13 0,.cells ⟨137,1,fun _=>kF { nD p s x k with val:=ad.1.val},0⟩),(.s 113 0,mO p ad.1)]) ?_ ?_
       ·refine em [] trivial ⟨cq,cq,cq,cq,cq,cq,cq,tt⟩ ⟨obs rfl,obs rfl,obs rfl (hg:=q0 (ah (KN _ _))),obs rfl,tt⟩
       refine rg [] rfl ?_;refine cd rfl (fun h19=>?_) (fun h19=>?_)
       ·have e65:(atI p s x.go).op=65:=by simpa using h19
        refine rg [] rfl ?_;refine ⟨(),?_,?_⟩
        ·trivial
        ·refine em [] trivial ⟨cq,cq,cq,cq,cq,cq,tt⟩ ⟨obs rfl,obs rfl,obs rfl (hg:=q0 (ah ((KO _ _).trans ((ee _).trans (by rw [lF,if_pos e65]))))),obs rfl,tt⟩
       ·have e65:¬ (atI p s x.go).op=65:=by simpa using h19
        refine sk ?_;refine ⟨(),?_,?_⟩
        ·trivial
        ·refine em [] trivial ⟨cq,cq,cq,cq,cq,cq,tt⟩ ⟨obs rfl,obs rfl,obs rfl (hg:=q0 (ah ((ee 0).trans (by rw [lF,if_neg e65])))),obs rfl,tt⟩
      ·rintro _ h_inv;refine sq (sq ?_);have hge:ad.1.g.toNat<ad.1.s.gos.length:=by rw [hokA.s.gos];have:=hokA.g;omega
       refine rg [] rfl ?_;refine cd rfl (fun h21=>?_) (fun h21=>?_)
       ·have hov:¬ ad.1.over=true:=by simpa using h21
        refine sq (rgs [⟨true,[.s 113 0],.ptr (.b 0) 1 0 [1,3,ad.1.g.toNat],[mO p ad.1]⟩] rfl ?_ ?_)
        ·have hq:AC Tryz.prog T bn 162 [.ptr (.b 0) 1 0 []] (List.map (gW (sig [.s 113 0] 0)) [mO p ad.1]) (rV ad.1) [mO p ad.1]:=by rw [lI];exact PU p ad.1 hokA.g
         have hk1:=bF [.s 113 0] p ad.1;have hk2:=bF (bs 1) p ad.1
         exact au
        refine sq ?_;refine WP.ent (st':=aK [(8,.ptr (.s 8 0) 1 0 []),(9,.ptr (.s 9 0) 1 0 []),(13,.ptr (.s 13 0) 1 0 []),(16,.ptr (.s 113 0) 1 0 []),(18,.int ad.2.2)] [(.s 8 0,.cells ⟨62,1,fun _=>(T 62).zero,0⟩),(.s 9 0,.cells ⟨137,1,fun _=>(T 137).zero,0⟩),(.s 13 0,.cells ⟨137,1,fun _=>kF (lF p s x ad.1.val),0⟩),(.s 113 0,mO p (eP ad.1 { aQ ad.1 with pc:=ad.2.1}))]) ?_ ?_
        ·refine em [] trivial ⟨cq,cq,cq,cq,cq,tt⟩ ⟨obs rfl,obs rfl,obs rfl,obs rfl (hg:=q0 (ah ((congrArg (fun z=>AV.put z [1,3,ad.1.g.toNat,2] (.int ad.2.1)) (iw _ _ _)).trans (KJ hge (ng _ _))))),tt⟩
        refine rgs [⟨true,[.s 113 0],.tup [],[mO p (fF p (eP ad.1 { aQ ad.1 with pc:=ad.2.1}) ad.1.g)]⟩] rfl ?_ ?_
        ·have hq:AC Tryz.prog T bn 163 [.ptr (.b 0) 1 0 [],.int ad.1.g] (List.map (gW (sig [.s 113 0] 0)) [mO p (eP ad.1 { aQ ad.1 with pc:=ad.2.1})]) (.tup []) [mO p (fF p (eP ad.1 { aQ ad.1 with pc:=ad.2.1}) ad.1.g)]:=by
          rw [lI];exact CY p _ _ (hokA.s.eP (x:={ aQ ad.1 with pc:=ad.2.1}) (fJ hokA.s _))
         have hk1:=bF [.s 113 0] p (eP ad.1 { aQ ad.1 with pc:=ad.2.1});have hk2:=bF (bs 1) p (fF p (eP ad.1 { aQ ad.1 with pc:=ad.2.1}) ad.1.g)
         exact au
        refine sq ?_;refine WP.ent (st':=aK [(8,.ptr (.s 8 0) 1 0 []),(9,.ptr (.s 9 0) 1 0 []),(13,.ptr (.s 13 0) 1 0 []),(16,.ptr (.s 113 0) 1 0 []),(18,.int ad.2.2)] [(.s 8 0,.cells ⟨62,1,fun _=>(T 62).zero,0⟩),(.s 9 0,.cells ⟨137,1,fun _=>(T 137).zero,0⟩),(.s 13 0,.cells ⟨137,1,fun _=>kF (lF p s x ad.1.val),0⟩),(.s 113 0,mO p (fF p (eP ad.1 { aQ ad.1 with pc:=ad.2.1}) ad.1.g))]) ?_ ?_
        ·refine em [] trivial ⟨cq,cq,cq,cq,cq,tt⟩ ⟨obs rfl,obs rfl,obs rfl,obs rfl (hg:=q0 (ah (iw _ _ _))),tt⟩
        refine rg [] rfl ?_;refine cd rfl (fun h24=>?_) (fun h24=>?_)
        ·have hmd:0≤ad.2.2:=of_decide_eq_true h24;refine rgs [⟨true,[.s 113 0],.tup [],[mO p (fF p (fF p (eP ad.1 { aQ ad.1 with pc:=ad.2.1}) ad.1.g) ad.2.2)]⟩] rfl ?_ ?_
         ·have hq:AC Tryz.prog T bn 163 [.ptr (.b 0) 1 0 [],.int ad.2.2] (List.map (gW (sig [.s 113 0] 0)) [mO p (fF p (eP ad.1 { aQ ad.1 with pc:=ad.2.1}) ad.1.g)]) (.tup []) [mO p (fF p (fF p (eP ad.1 { aQ ad.1 with pc:=ad.2.1}) ad.1.g) ad.2.2)]:=by
           rw [lI];exact CY p _ _ (pF (hokA.s.eP (x:={ aQ ad.1 with pc:=ad.2.1}) (fJ hokA.s _)) _ _)
          have hk1:=bF [.s 113 0] p (fF p (eP ad.1 { aQ ad.1 with pc:=ad.2.1}) ad.1.g);have hk2:=bF (bs 1) p (fF p (fF p (eP ad.1 { aQ ad.1 with pc:=ad.2.1}) ad.1.g) ad.2.2)
          exact au
         refine sq (dr [] rfl ?_);refine WP.ret ?_;change Fin ..;have er:yC p ad.1 ad.2.1 ad.2.2=fF p (fF p (eP ad.1 { aQ ad.1 with pc:=ad.2.1}) ad.1.g) ad.2.2:=by rw [yC,if_neg hov,if_pos hmd]
         have ed:doF p s x n=((fF p (fF p (eP ad.1 { aQ ad.1 with pc:=ad.2.1}) ad.1.g) ad.2.2).s,lF p s x ad.1.val,0):=by rw [doF,if_neg ha,if_neg hf0,if_neg hp0,had,er]
         rw [ed];exact wF hT rfl rfl rfl rfl rfl (ah (vY _ _)) (ah rfl) rfl (hno':=nP _)
        ·have hmd:¬ 0≤ad.2.2:=of_decide_eq_false h24;refine sk (sq (dr [] rfl ?_));refine WP.ret ?_;change Fin ..;have er:yC p ad.1 ad.2.1 ad.2.2=fF p (eP ad.1 { aQ ad.1 with pc:=ad.2.1}) ad.1.g:=by rw [yC,if_neg hov,if_neg hmd]
         have ed:doF p s x n=((fF p (eP ad.1 { aQ ad.1 with pc:=ad.2.1}) ad.1.g).s,lF p s x ad.1.val,0):=by rw [doF,if_neg ha,if_neg hf0,if_neg hp0,had,er]
         rw [ed];exact wF hT rfl rfl rfl rfl rfl (ah (rfl)) (ah rfl) rfl (hno':=nP _)
       ·have hov:ad.1.over=true:=by simpa using h21
        refine sk (sq (dr [] rfl ?_));refine WP.ret ?_;change Fin ..;have er:yC p ad.1 ad.2.1 ad.2.2=ad.1:=by rw [yC,if_pos hov]
        have ed:doF p s x n=((ad.1).s,lF p s x ad.1.val,0):=by rw [doF,if_neg ha,if_neg hf0,if_neg hp0,had,er]
        rw [ed];exact wF hT rfl rfl rfl rfl rfl (ah (rfl)) (ah rfl) rfl (hno':=nP _)
structure iq where
 steps:Int
 fuel:Int
 runs:Int
def dD (b:iq):AV:=cu 28 [.int b.steps,.int b.fuel,.int b.runs]
def xQ (b:iq):Prop:=(0≤b.steps∧b.steps≤256)∧(0≤b.fuel∧b.fuel≤4096)∧(0≤b.runs∧b.runs≤65536)
instance (b:iq):Decidable (xQ b):=by unfold xQ;infer_instance
def inB (n m:Int):Bool:=decide (0≤n∧n≤m)
theorem Et (n m:Int):AC Tryz.prog T bn 112 [.int n,.int m] [] (.bool (inB n m)) []:=by
 refine aA hT Tryz.func112 rfl rfl (Nat.le_of_ble_eq_true rfl) ?_;refine sg rfl ?_;refine sg rfl ?_;refine WP.ret ?_;change Fin ..;refine fin1 hT (by rfl) ?_;simp only [band];rw [inB,Bool.eq_iff_iff];simp
def gZ (p:ay) (n:Int) (b:iq):Int:=if dQ p=false then 3 else if 256<n then 2 else if ¬ xQ b then 6 else 0
theorem WJ (p:ay) (n:Int) (b:iq):AC Tryz.prog T bn 66 [aj p,.int n,dD b] [] (.int (gZ p n b)) []:=by
 refine aA hT Tryz.func66 rfl rfl (Nat.le_of_ble_eq_true rfl) ?_;refine sg rfl ?_;refine sq (sq ?_);refine WP.ent (st':=aK [(3,.rp 26 (aj p)),(5,.rp 28 (dD b)),(1,.int n)] []) (em [(.s 3 0,1),(.s 5 0,1)] ⟨sF,sF,tt⟩ ⟨rq,rq,cq,tt⟩ trivial) ?_;refine rgs [CG.pure (yE p)] rfl ?_ ?_
 ·have hq:=zZ p;exact au
 refine sg rfl ?_;refine cd rfl (fun h2=>?_) (fun h2=>?_)
 ·have hr:dQ p=false:=by simp at h2;simp [dQ];exact h2
  refine sg rfl ?_;exact WP.ret (cZ hT (by rfl) (by rw [gZ,if_pos hr]))
 ·have hr:¬ dQ p=false:=by simp at h2;simp [dQ];exact h2
  refine sk (sq (sq (rg [] rfl ?_)));refine cd rfl (fun h4=>?_) (fun h4=>?_)
  ·have hn:256<n:=by simpa using h4
   refine sg rfl ?_;exact WP.ret (cZ hT (by rfl) (by rw [gZ,if_neg hr,if_pos hn]))
  ·have hn:¬ 256<n:=by simp at h4;omega
   refine sk (sq (rg [] rfl ?_));refine sq (sq (rgs [CG.pure (.bool (inB b.steps 256)),CG.pure (.bool (inB b.fuel 4096)),CG.pure (.bool (inB b.runs 65536))] rfl ?_ ?_))
   ·have hq1:=Et b.steps 256;have hq2:=Et b.fuel 4096
    have hq3:=Et b.runs 65536;exact au
   refine cd rfl (fun h7=>?_) (fun h7=>?_)
   ·have hb:¬ xQ b:=by simp only [bor,inB]at h7;intro ⟨a,c,d⟩;simp at h7;omega
    refine sg rfl ?_;exact WP.ret (cZ hT (by rfl) (by rw [gZ,if_neg hr,if_neg hn,if_pos hb]))
   ·have hb:¬ ¬ xQ b:=fun h=>h (by simp only [bor,inB]at h7;simp at h7;exact ⟨by omega,by omega,by omega⟩);refine sk (sq (rg [] rfl ?_));exact WP.ret (cZ hT (by rfl) (by rw [gZ,if_neg hr,if_neg hn,if_neg hb]))
theorem XW {p:ay} {n:Int} {b:iq} (h:gZ p n b=0):dQ p=true∧n≤256∧xQ b:=by
 unfold gZ at h;split at h
 ·cases h
 rename_i h1;split at h
 ·cases h
 rename_i h2;split at h
 ·cases h
 rename_i h3;exact ⟨by simpa using h1,by omega,by simpa using h3⟩
theorem Tv (x:bI) (n:Int):AC Tryz.prog T bn 175 [aV x,.rp 3 (.int n)] [] (.bool (x.go==n)) []:=by
 refine aA hT Tryz.func175 rfl rfl (Nat.le_of_ble_eq_true rfl) ?_;refine sg rfl ?_;refine sg rfl ?_;exact WP.ret (fin1 hT (by rfl) rfl)
def ny (l:List bI) (n:Int):Int:=if l.any (fun x=>x.go==n)then (l.findIdx (fun x=>x.go==n):Nat)else -1
theorem Uz {l:List bI} {n:Int} {i:Nat} (hi:i<l.length) (h:((l.getD i dX).go==n)=true) (hn:∀ j,j<i→((l.getD j dX).go==n)=false):ny l n=i:=by
 have e:l.getD i dX=l[i]:=by simp [hi]
 have hm:l.any (fun x=>x.go==n)=true:=List.any_eq_true.2 ⟨l[i],List.getElem_mem hi,by rw [← e];exact h⟩;rw [ny,if_pos hm];congr 1;rw [List.findIdx_eq hi];refine ⟨by rw [← e];exact h,fun j hj=>?_⟩;have:=hn j hj
 have hj':j<l.length:=by omega
 rwa [List.getD_eq_getElem?_getD,List.getElem?_eq_getElem hj']at this
theorem Ux {l:List bI} {n:Int} (hn:∀ j,j<l.length→((l.getD j dX).go==n)=false):ny l n = -1:=by
 rw [ny,if_neg];rw [List.any_eq_true];rintro ⟨x,hx,h⟩;obtain ⟨j,hj,e⟩:=List.getElem_of_mem hx;have:=hn j hj
 rw [List.getD_eq_getElem?_getD,List.getElem?_eq_getElem hj,Option.getD_some,e]at this;rw [this]at h;cases h
abbrev BG (n:Int):Ob := .cells ⟨3,1,fun _ => .int n,0⟩
theorem O8 (g:Bool) (l:List bI) (n:Int):AC Tryz.prog T bn 174 [.row 122 g l.length (fun i=>aV (l.getD i dX)),.clo 175 [.ptr (.b 0) 1 0 []]] [BG n] (.int (ny l n)) [BG n]:=by
 refine aA hT Tryz.func174 rfl rfl (Nat.le_of_ble_eq_true rfl) ?_;refine WP.rowlen 0 rfl (fun hl=>?_);refine sg rfl ?_;refine sq (sq (rg [] rfl ?_));refine bk ?_;refine WP.loop (α:=Nat) (fun i=>aK [(0,.row 122 g l.length (fun i=>aV (l.getD i dX))),(1,.clo 175 [.ptr (.b 0) 1 0 []]),(7,.int l.length),(8,.int i)] [(.b 0,BG n)]) (fun i=>i≤l.length ∧ ∀ j,j<i→((l.getD j dX).go==n)=false) (fun i=>l.length - i) ?_ ?_
 ·refine ⟨0,?_,?_⟩
  ·exact ⟨Nat.zero_le _,fun j hj=>by omega⟩
  ·refine em [] trivial ⟨cq,cq,cq,cq,tt⟩ ⟨obs rfl,tt⟩
 ·rintro i ⟨hi,hn⟩;refine sg rfl ?_;refine sq ?_;refine cd rfl (fun h2=>?_) (fun h2=>?_)
  ·have hil:i<l.length:=by simpa using h2
   refine sk (sq (bk (sq (rg [] rfl ?_))));refine sq (rgs [CG.pure (.bool ((l.getD i dX).go==n))] rfl ?_ ?_)
   ·have hq:=Tv (l.getD i dX) n;have hil2:0≤(i:Int)∧(i:Int)<(l.length:Int):=by omega
    simp only [ak,under,CG.pure]
    repeat' with_reducible refine And.intro ?_ ?_
    all_goals (try with_reducible intros)
    all_goals (first | exact trivial | assumption | omega | exact hq | exact hil2 | exact hil2.1 | exact hil2.2 | exact rfl | (simp;done) | grind)
   refine cd rfl (fun h4=>?_) (fun h4=>?_)
   ·refine sg rfl ?_;refine WP.ret ?_;change Fin ..;refine aJ hT [] (ts:=[(4,.int (ny l n))]) (l:=[.int (ny l n)]) trivial ⟨⟨rfl,_,rfl,ah (congrArg AV.int (Uz hil h4 hn).symm)⟩,tt⟩ ⟨obs rfl,tt⟩ rfl rfl rfl
   ·refine sk (rg [] rfl ?_);refine ⟨i+1,?_,?_,?_⟩
    ·exact ⟨hil,all_succ (Q:=fun j=>((l.getD j dX).go==n)=false) hn h4⟩
    ·refine em [] trivial ⟨cq,cq,cq,cq,tt⟩ ⟨obs rfl,tt⟩
    ·(try simp only []);first | omega | grind
  ·have hil:i=l.length:=by simp at h2;omega
   subst hil;refine xt (sq (rg [] rfl ?_));refine WP.ret ?_;change Fin ..;refine aJ hT [] (ts:=[(4,.int (ny l n))]) (l:=[.int (ny l n)]) trivial ⟨⟨rfl,_,rfl,ah (congrArg AV.int (Ux hn).symm)⟩,tt⟩ ⟨obs rfl,tt⟩ rfl rfl rfl
def FQ (l:List bI):Nat→Int→bI×Int
 | 0,n=>(dX,n)
 | k+1,n=>if 0≤ny l ((n+1) % 6)then (l.getD (ny l ((n+1) % 6)).toNat dX,((n+1) % 6))else FQ l k ((n+1) % 6)
theorem O9 (l:List bI):∀ (k:Nat) (n:Int),0≤n∧n<6→0≤(FQ l k n).2∧(FQ l k n).2<6
 | 0,n,h=>h
 | k+1,n,h=>by
  have h1:0≤((n+1) % 6)∧((n+1) % 6)<6:=by omega
  rw [FQ];split
  ·exact h1
  ·exact O9 l k _ h1
theorem Qv {l:List bI} {n:Int} {x:bI} (hx:x∈l) (h:x.go=n):0≤ny l n:=by
 have hm:l.any (fun x=>x.go==n)=true:=List.any_eq_true.2 ⟨x,hx,beq_iff_eq.2 h⟩;rw [ny,if_pos hm];omega
theorem Uy {l:List bI} {n:Int} (h:0≤ny l n):(ny l n).toNat<l.length:=by
 unfold ny at h ⊢;split at h
 ·rename_i hm;rw [if_pos hm,Int.toNat_natCast];obtain ⟨x,hx,hp⟩:=List.any_eq_true.1 hm;exact List.findIdx_lt_length_of_exists ⟨x,hx,hp⟩
 ·omega
theorem O7 (i:Int) (l:List bI) (n:Int) (hn:0≤n∧n<6) (hl:l≠[]) (hg:∀ x∈l,0≤x.go∧x.go<6):AC Tryz.prog T bn 173 [.int i,dS l,.ptr (.b 0) 1 0 []] [BG n] (.tup [aV (FQ l 6 n).1,.bool true]) [BG (FQ l 6 n).2]:=by
 refine aA hT Tryz.func173 rfl rfl (Nat.le_of_ble_eq_true rfl) ?_;refine WP.rowlen 1 rfl (fun hll=>?_);refine sg rfl ?_;refine bk ?_;refine WP.loop (α:=Nat×Int) (fun (⟨k,m⟩:Nat×Int)=>aK [(1,dS l),(2,.ptr (.b 0) 1 0 []),(5,.ptr (.s 5 0) 1 0 [])] [(.b 0,BG m),(.s 5 0,.cells ⟨122,1,fun _=>aV dX,0⟩)]) (fun (⟨k,m⟩:Nat×Int)=>FQ l k m=FQ l 6 n∧(0≤m∧m<6) ∧ ∃ x∈l,∃ j:Nat,j<k∧x.go=(m+1+j) % 6) (fun (⟨k,m⟩:Nat×Int)=>k) ?_ ?_
 ·refine ⟨⟨6,n⟩,?_,?_⟩
  ·obtain ⟨x,hx⟩:=List.exists_mem_of_ne_nil l hl;have:=hg x hx
   refine ⟨rfl,hn,x,hx,((x.go - n - 1) % 6).toNat,by omega,by omega⟩
  ·refine em [] trivial ⟨cq,cq,cq,tt⟩ ⟨obs rfl,obs rfl,tt⟩
 ·rintro ⟨k,m⟩ ⟨hr,hm,x,hx,j,hj,hxg⟩;obtain ⟨k,rfl⟩:∃ k',k=k'+1:=⟨k - 1,by omega⟩;have hw:IntKind.i64.wrap (m+1)=m+1:=bC (by omega) (by omega)
  have hm2:0≤((m+1) % 6)∧((m+1) % 6)<6:=by omega
  refine bk (sq (rg [] rfl ?_));refine sq ?_;refine WP.ent (st':=aK [(1,dS l),(2,.ptr (.b 0) 1 0 []),(5,.ptr (.s 5 0) 1 0 [])] [(.b 0,BG ((m+1) % 6)),(.s 5 0,.cells ⟨122,1,fun _=>aV dX,0⟩)]) ?_ ?_
  ·refine em [] trivial ⟨cq,cq,cq,tt⟩ ⟨obs rfl (hg:=q0 (ah ((congrArg (fun z:Int=>AV.int (z.tmod 6)) hw).trans (congrArg AV.int (Int.tmod_eq_emod_of_nonneg (by omega)))))),obs rfl,tt⟩
  refine rgs [⟨true,[.b 0],.int (ny l ((m+1) % 6)),[BG ((m+1) % 6)]⟩] rfl ?_ ?_
  ·have hq:=O8 false l ((m+1) % 6);have hk1:oG [.b 0] [BG ((m+1) % 6)]:=⟨fun _ _=>rfl,tt⟩
   have hk2:oG (bs 1) [BG ((m+1) % 6)]:=⟨fun _ _=>rfl,tt⟩;exact au
  refine sg rfl ?_;refine cd rfl (fun h3=>?_) (fun h3=>?_)
  ·have hp:0≤ny l ((m+1) % 6):=by simpa using h3
   have hpl:=Uy hp;refine sq (rgs [] rfl ?_ ?_)
   ·have hpl2:0≤ny l ((m+1) % 6)∧ny l ((m+1) % 6)<(l.length:Int):=by omega
    simp only [ak,under,CG.pure]
    repeat' with_reducible refine And.intro ?_ ?_
    all_goals (try with_reducible intros)
    all_goals (first | exact trivial | assumption | omega | exact hpl2 | exact hpl2.1 | exact hpl2.2 | (simp;done) | grind)
   refine WP.ret ?_;change Fin ..;have er:FQ l 6 n=(l.getD (ny l ((m+1) % 6)).toNat dX,((m+1) % 6)):=by rw [← hr,FQ,if_pos hp]
   rw [er];refine aJ hT [(.s 5 0,1)] (ts:=[(5,.rp 122 (aV (l.getD (ny l ((m+1) % 6)).toNat dX))),(6,.bool true)]) (l:=[aV (l.getD (ny l ((m+1) % 6)).toNat dX),.bool true]) ⟨sF,tt⟩ ⟨⟨rfl,_,rfl,rpv (hF:=by simp [dP,aI])⟩,cq,tt⟩ ⟨obs rfl,tt⟩ rfl rfl rfl
  ·have hp:¬ 0≤ny l ((m+1) % 6):=by simpa using h3
   refine sk ?_;refine ⟨⟨k,((m+1) % 6)⟩,?_,?_,?_⟩
   ·rw [FQ,if_neg hp]at hr;refine ⟨hr,hm2,x,hx,?_⟩;rcases Nat.eq_zero_or_pos j with h0 | h0
    ·exact absurd (Qv hx (by omega)) hp
    ·exact ⟨j - 1,by omega,by omega⟩
   ·refine em [] trivial ⟨cq,cq,cq,tt⟩ ⟨obs rfl,obs rfl,tt⟩
   ·(try simp only []);first | omega | grind
theorem X8 {p:ay} {s:PSt} {x:bI} {n:Int} (h:OkS s):OkS (doF p s x n).1:=by
 unfold doF;split
 ·exact rW
 split
 ·exact rW
 split
 ·exact rW
 rename_i hp;have hp:zY p s x:=by simpa using hp
 have h1:OkM (sU p s x n).1:=P5 (Ei h hp.1) _ _;have h2:OkS (eP (sU p s x n).1 { aQ (sU p s x n).1 with pc:=(sU p s x n).2.1}).s:=h1.s.eP (x:={ aQ (sU p s x n).1 with pc:=(sU p s x n).2.1}) (fJ h1.s _)
 show OkS (yC p _ _ _).s;unfold yC;split
 ·exact h1.s
 split
 ·exact pF (pF h2 _ _) _ _
 ·exact pF h2 _ _
theorem yR {p:ay} {n:Int}:OkS (bV p n).1:=by
 unfold bV;split
 ·exact rW
 rename_i hr;split
 ·exact rW
 have hp:=jg (by simpa using hr);have hF:Dw p (aY p 0):=hp.fn _ (by rw [aY,List.getD_eq_getElem?_getD,List.getElem?_eq_getElem (show 0<p.funcs.length by have:=hp.funcs;omega)];exact List.getElem_mem _)
 refine ⟨xG _ _,rfl,rfl,rfl,rW.ch,fun g hg=>?_⟩;rcases List.mem_cons.1 hg with h1 | h1
 ·rw [h1];exact (IU hF (XP hp)).1.1
 ·exact rW.go g (List.mem_cons_of_mem _ h1)
theorem KF {p:ay} {s:PSt} {x:bI} (h:x∈aN p s):x.go∈iG s∧x.alt∈kU p s x.go∧vM p s=0:=by
 unfold aN at h;split at h
 ·rename_i ha;obtain ⟨g,h1,h2⟩:=List.mem_flatMap.1 h;obtain ⟨a,h3,rfl⟩:=List.mem_map.1 h2;exact ⟨h1,h3,ha⟩
 ·cases h
theorem TL {p:ay} {s:PSt} {x:bI} (h:x∈aN p s):0≤x.go∧x.go<6:=by
 obtain ⟨j,h1,h2,_⟩:=xC.1 (KF h).1;omega
def nM (p:ay) (n:Int):Nat→PSt→Int→List bI×Int
 | 0,s,m=>([],m)
 | k+1,s,m=>if aN p s=[]then ([],m)else
  ((FQ (aN p s) 6 m).1::(nM p n k (doF p s (FQ (aN p s) 6 m).1 n).1 (FQ (aN p s) 6 m).2).1,(nM p n k (doF p s (FQ (aN p s) 6 m).1 n).1 (FQ (aN p s) 6 m).2).2)
theorem DY (σ:Id→Id) (x:bI):ren σ (aV x)=aV x:=bg (fun q=>by match q with | 0 | 1 | q+2=>rfl)
theorem JK (p:ay) (b:iq) (n:Int) (hn:0≤n∧n<6) (hb:0≤b.steps∧b.steps≤256):AC Tryz.prog T bn 67 [aj p,dD b,.clo 173 [.ptr (.b 0) 1 0 []]] [BG n] (dS (nM p b.fuel b.steps.toNat (bV p b.fuel).1 n).1) [BG (nM p b.fuel b.steps.toNat (bV p b.fuel).1 n).2]:=by
 refine aA hT Tryz.func67 rfl rfl (Nat.le_of_ble_eq_true rfl) ?_;refine sg rfl ?_;refine sq ?_;refine WP.ent (st':=aK [(2,.clo 173 [.ptr (.b 0) 1 0 []]),(3,.rp 26 (aj p)),(4,.rp 28 (dD b))] [(.b 0,BG n)]) ?_ ?_
 ·refine em [(.s 3 0,1),(.s 4 0,1)] ⟨sF,sF,tt⟩ ⟨cq,rq,rq,tt⟩ ⟨obs rfl,tt⟩
 refine rgs [CG.pure (.tup [encS (bV p b.fuel).1,.int (bV p b.fuel).2])] rfl ?_ ?_
 ·have hq:=J7 p b.fuel;exact au
 refine sg rfl ?_;refine sq (bk ?_);refine WP.loop (α:=List bI×PSt×Int) (fun (⟨acc,s,m⟩:List bI×PSt×Int)=>aK [(2,.clo 173 [.ptr (.b 0) 1 0 []]),(3,.rp 26 (aj p)),(4,.rp 28 (dD b)),(7,.ptr (.s 7 0) 1 0 []),(9,.own (.s 58 0) acc.length 0 acc.length none)] [(.b 0,BG m),(.s 7 0,.cells ⟨62,1,fun _=>encS s,0⟩),(.s 58 0,bK 122 aV dX acc)]) (fun (⟨acc,s,m⟩:List bI×PSt×Int)=>OkS s∧(0≤m∧m<6)∧acc.length≤b.steps.toNat∧acc++(nM p b.fuel (b.steps.toNat - acc.length) s m).1=(nM p b.fuel b.steps.toNat (bV p b.fuel).1 n).1∧(nM p b.fuel (b.steps.toNat - acc.length) s m).2=(nM p b.fuel b.steps.toNat (bV p b.fuel).1 n).2) (fun (⟨acc,s,m⟩:List bI×PSt×Int)=>b.steps.toNat - acc.length) ?_ ?_
 ·refine ⟨⟨[],(bV p b.fuel).1,n⟩,?_,?_⟩
  ·exact ⟨yR,hn,Nat.zero_le _,rfl,rfl⟩
  ·refine em [] trivial ⟨cq,cq,cq,cq,⟨rfl,_,rfl,eU⟩,tt⟩ ⟨obs rfl,obs rfl,⟨fun _ _=>rfl,.inr ⟨rfl,122,_,rfl,by decide⟩⟩,tt⟩
 ·rintro ⟨acc,s,m⟩ ⟨hs,hm,hal,hr1,hr2⟩;refine sq (sq (rg [] rfl ?_));refine cd rfl (fun h3=>?_) (fun h3=>?_)
  ·have hlt:acc.length<b.steps.toNat:=by simp [-List.getD_eq_getElem?_getD]at h3;omega
   have hk:b.steps.toNat - acc.length=(b.steps.toNat - (acc.length+1))+1:=by omega
   refine sk (bk (sq (rgs [CG.pure (.tup [dS (aN p s),.int (vM p s)])] rfl ?_ ?_)))
   ·have hq:=FV p s hs;exact au
   refine sq (sq (rg [] rfl ?_));refine cd rfl (fun h5=>?_) (fun h5=>?_)
   ·have hz:aN p s=[]:=List.eq_nil_of_length_eq_zero (by simp [-List.getD_eq_getElem?_getD]at h5;simpa using h5);refine xt (sq (rg [] rfl ?_));refine WP.ret ?_;change Fin ..;rw [hk,nM,if_pos hz]at hr1 hr2;simp only [List.append_nil]at hr1;rw [← hr1,← hr2];refine aJ hT [(.s 58 0,acc.length)] (ts:=[(6,dS acc)]) (l:=[dS acc]) ⟨⟨_,rfl,Nat.le_refl _⟩,tt⟩ ⟨⟨rfl,_,rfl,?_⟩,tt⟩ ⟨obs rfl,tt⟩ rfl rfl rfl;exact fG rfl rfl rfl (fun h=>by cases h) (by simp [dP,aI]) (fun q hq=>by rw [Nat.zero_add];exact ⟨rfl,AEq.refl _⟩)
   ·have hz:¬ aN p s=[]:=fun e=>by rw [e]at h5;cases h5
    obtain ⟨r,hr⟩:∃ r,FQ (aN p s) 6 m=r:=⟨_,rfl⟩;have hrb:0≤r.2∧r.2<6:=by rw [← hr];exact O9 _ _ _ hm
    refine sk (sq (rgs [⟨true,[.b 0],.tup [aV r.1,.bool true],[BG r.2]⟩] rfl ?_ ?_))
    ·have hq:=O7 acc.length (aN p s) m hm hz (fun x hx=>TL hx);rw [hr]at hq;have hk1:oG [.b 0] [BG m]:=⟨fun _ _=>rfl,tt⟩
     have hk2:oG (bs 1) [BG r.2]:=⟨fun _ _=>rfl,tt⟩;exact au
    refine sq (sq (rg [] rfl ?_));refine cd rfl (fun h7=>?_) (fun h7=>?_)
    ·cases h7
    ·refine sk (sq ?_);refine WP.ent (st':=aK [(2,.clo 173 [.ptr (.b 0) 1 0 []]),(3,.rp 26 (aj p)),(4,.rp 28 (dD b)),(7,.ptr (.s 7 0) 1 0 []),(9,.own (.s 58 0) acc.length 0 acc.length none),(12,.rp 122 (aV r.1))] [(.b 0,BG r.2),(.s 7 0,.cells ⟨62,1,fun _=>encS s,0⟩),(.s 58 0,bK 122 aV dX acc)]) ?_ ?_
     ·refine em [(.s 12 0,1)] ⟨sF,tt⟩ ⟨cq,cq,cq,cq,cq,⟨rfl,_,rfl,aZ rfl rfl (by decide) rfl (DY _ _) rfl⟩,tt⟩ ⟨obs rfl,obs rfl,bU (kN _) rfl rfl rfl rfl rfl (fun q hq=>rfl),tt⟩
     refine rgs [CG.pure (.tup [encS (doF p s r.1 b.fuel).1,kF (doF p s r.1 b.fuel).2.1,.int (doF p s r.1 b.fuel).2.2])] rfl ?_ ?_
     ·have hq:=Zj p s r.1 b.fuel hs;exact au
     refine rgs [] rfl ?_ ?_
     ·have hbt:(T 122).bytes=16:=rfl;simp [ak,under,hbt];omega
     refine ⟨⟨acc++[r.1],(doF p s r.1 b.fuel).1,r.2⟩,?_,?_,?_⟩
     ·rw [hk,nM,if_neg hz,hr]at hr1 hr2;refine ⟨X8 hs,hrb,by rw [bH];omega,?_,?_⟩
      ·rw [← hr1,bH,List.append_assoc];rfl
      ·rw [← hr2,bH]
     ·refine em [] trivial ⟨cq,cq,cq,cq,⟨rfl,_,rfl,ah (by rw [bH])⟩,tt⟩ ⟨obs rfl,obs rfl,bU (kN _) rfl rfl (by rw [bH]) rfl rfl (JO (z:=(T 122).zero) rfl rfl (fun q hq=>rfl)),tt⟩
     ·(show b.steps.toNat - (acc++[r.1]).length<b.steps.toNat - acc.length;rw [bH];omega)
  ·have hlt:acc.length=b.steps.toNat:=by simp [-List.getD_eq_getElem?_getD]at h3;omega
   refine xt (sq (rg [] rfl ?_));refine WP.ret ?_;change Fin ..;rw [hlt,Nat.sub_self,nM]at hr1 hr2;simp only [List.append_nil]at hr1;rw [← hr1,← hr2];refine aJ hT [(.s 58 0,acc.length)] (ts:=[(6,dS acc)]) (l:=[dS acc]) ⟨⟨_,rfl,Nat.le_refl _⟩,tt⟩ ⟨⟨rfl,_,rfl,?_⟩,tt⟩ ⟨obs rfl,tt⟩ rfl rfl rfl;exact fG rfl rfl rfl (fun h=>by cases h) (by simp [dP,aI]) (fun q hq=>by rw [Nat.zero_add];exact ⟨rfl,AEq.refl _⟩)
def uH (p:ay) (b:iq):List bI:=if gZ p 0 b=0 then (nM p b.fuel b.steps.toNat (bV p b.fuel).1 5).1 else []
theorem Tt (p:ay) (b:iq):AC Tryz.prog T bn 118 [aj p,dD b] [] (.tup [dS (uH p b),.int (gZ p 0 b)]) []:=by
 refine aA hT Tryz.func118 rfl rfl (Nat.le_of_ble_eq_true rfl) ?_;refine sg rfl ?_;refine sq (sq ?_);refine WP.ent (st':=aK [(2,.rp 26 (aj p)),(3,.rp 28 (dD b))] []) (em [(.s 2 0,1),(.s 3 0,1)] ⟨sF,sF,tt⟩ ⟨rq,rq,tt⟩ trivial) ?_;refine rgs [CG.pure (.int (gZ p 0 b))] rfl ?_ ?_
 ·have hq:=WJ p 0 b;exact au
 refine sg rfl ?_;refine cd rfl (fun h2=>?_) (fun h2=>?_)
 ·have hz:gZ p 0 b≠0:=by simpa using h2
  refine sg rfl ?_;refine WP.ret ?_;change Fin ..;refine aJ hT [] (ts:=[(4,dS (uH p b)),(5,.int (gZ p 0 b))]) (l:=[dS (uH p b),.int (gZ p 0 b)]) trivial ⟨⟨rfl,_,rfl,?_⟩,cq,tt⟩ trivial rfl rfl rfl;rw [uH,if_neg hz];exact dJ (by decide)
 ·have hz:gZ p 0 b=0:=by simpa using h2
  have hb:=(XW hz).2.2;refine sk (sq (rg [] rfl ?_));refine sq ?_;refine WP.ent (st':=aK [(2,.rp 26 (aj p)),(3,.rp 28 (dD b)),(7,.ptr (.s 7 0) 1 0 [])] [(.s 7 0,BG 5)]) ?_ ?_
  ·refine em [] trivial ⟨cq,cq,cq,tt⟩ ⟨obs rfl,tt⟩
  refine rgs [⟨true,[.s 7 0],dS (uH p b),[BG (nM p b.fuel b.steps.toNat (bV p b.fuel).1 5).2]⟩] rfl ?_ ?_
  ·have hq:=JK p b 5 (by omega) hb.1;have e:uH p b=(nM p b.fuel b.steps.toNat (bV p b.fuel).1 5).1:=by rw [uH,if_pos hz]
   rw [← e]at hq;have hz1:ren (sig [.s 7 0] 0) (aj p)=aj p:=sZ _ p
   have hz2:ren (sig [.s 7 0] 0) (dD b)=dD b:=bg (fun q=>by match q with | 0 | 1 | 2 | q+3=>rfl);rw [← hz1,← hz2]at hq;have hk1:oG [.s 7 0] [BG 5]:=⟨fun _ _=>rfl,tt⟩
   have hk2:oG (bs 1) [BG (nM p b.fuel b.steps.toNat (bV p b.fuel).1 5).2]:=⟨fun _ _=>rfl,tt⟩;exact au
  exact WP.ret (aJ hT [] (ts:=[(4,dS (uH p b)),(5,.int (gZ p 0 b))]) (l:=[dS (uH p b),.int (gZ p 0 b)]) trivial ⟨cq,⟨rfl,_,rfl,ah (by rw [hz])⟩,tt⟩ trivial rfl rfl rfl)
theorem Vg (p:ay) (b:iq):AC Tryz.prog T bn 98 [aj p,dD b] [] (.int (gZ p 0 b)) []:=by
 refine aA hT Tryz.func98 rfl rfl (Nat.le_of_ble_eq_true rfl) ?_;refine sg rfl ?_;refine sq (rgs [CG.pure (.tup [dS (uH p b),.int (gZ p 0 b)])] rfl ?_ ?_)
 ·have hq:=Tt p b;exact au
 refine sg rfl ?_;exact WP.ret (cZ hT (by rfl) rfl)
theorem JH (f:Bool) (l:List bI) (n:Nat) (h1:n+1<4294967296):AC Tryz.prog T bn 100 [.row 122 f (n+1) (fun i=>aV (l.getD i dX))] [] (.own (.b 0) (n+1) 0 (n+1) none) [.cells ⟨122,n+1,fun i=>aV (l.getD i dX),0⟩]:=by
 refine aA hT Tryz.func100 rfl rfl (Nat.le_of_ble_eq_true rfl) ?_;refine sg rfl ?_;refine sq (sq (rg [] rfl ?_));refine cd rfl (fun h1=>?_) (fun h1=>?_)
 ·cases h1
 ·refine sk (sq (rgs [] rfl ?_ ?_))
  ·have hbt:(T 122).bytes=16:=rfl;simp [ak,under,hbt];omega
  refine WP.ret ?_;change Fin ..;refine Eu hT [] [.s 7 0] (ts:=[(2,.own (.b 0) (n+1) 0 (n+1) none)]) (l:=[.own (.b 0) (n+1) 0 (n+1) none]) trivial rfl ⟨⟨_,.own (.s 7 0) (n+1) 0 (n+1) none,rfl,ah (by simp),rfl,rfl⟩,tt⟩ ⟨.inl ⟨_,.cells ⟨122,n+1,fun i=>aV (l.getD i dX),0⟩,rfl,⟨fun i=>aV (l.getD i dX),0,?_,Nat.le_refl _,Nat.zero_le _,Nat.zero_le _,fun i hi=>ah ?_⟩,fun _ _=>rfl,?_⟩,tt⟩ rfl rfl
  ·simp
  ·exact (qC (Nat.zero_le _) hi).trans rfl
  ·show Ob.cells ⟨122,n+1,fun i=>aV (l.getD i dX),0⟩=Ob.cells ⟨122,n+1,fun i=>ren _ (aV (l.getD i dX)),0⟩;simp only [DY]
theorem JI (f:Bool):AC Tryz.prog T bn 100 [.row 122 f 0 (fun i=>aV (([]:List bI).getD i dX))] [] (.own (.b 0) 0 0 0 none) [bK 122 aV dX []]:=by
 refine aA hT Tryz.func100 rfl rfl (Nat.le_of_ble_eq_true rfl) ?_;refine sg rfl ?_;refine sq (sq ?_);refine WP.nilreg (l:=[_]) (gs:=[]) hT hE rfl rfl trivial rfl rfl rfl rfl rfl rfl (fun b=>?_);refine cd rfl (fun h1=>?_) (fun h1=>?_)
 ·refine sg rfl ?_;exact WP.ret (Eu hT [] [.s 7 0] (ts:=[(2,.own (.b 0) 0 0 0 none)]) (l:=[.own (.b 0) 0 0 0 none]) trivial rfl ⟨⟨_,.own (.s 7 0) 0 0 0 none,rfl,Q8,rfl,rfl⟩,tt⟩ ⟨.inr ⟨rfl,122,_,rfl,Nat.lt_of_lt_of_eq (by decide) (show 2=(T 122).size from rfl)⟩,tt⟩ rfl rfl)
 ·refine sk (sq (rgs [CG.mine,CG.nop] rfl ?_ ?_))
  ·simp [ak,under]
  exact WP.ret (Eu hT [] [.s 5 0] (ts:=[(2,.own (.b 0) 0 0 0 none)]) (l:=[.own (.b 0) 0 0 0 none]) trivial rfl ⟨⟨_,.own (.s 5 0) 0 0 0 none,rfl,ah rfl,rfl,rfl⟩,tt⟩ ⟨.inl ⟨_,bK 122 aV dX [],rfl,⟨_,_,rfl,Nat.le_refl _,Nat.zero_le _,Nat.zero_le _,fun i hi=>absurd hi (Nat.not_lt_zero _)⟩,fun _ _=>rfl,(gX (DY _)).symm⟩,tt⟩ rfl rfl)
theorem NT (l:List bI) (h1:l.length<4294967296):AC Tryz.prog T bn 100 [dS l] [] (dS l) []:=by
 have h:AC Tryz.prog T bn 100 [dS l] [] (.own (.b 0) l.length 0 l.length none) [bK 122 aV dX l]:=by
  cases l with
  | nil=>exact JI false
  | cons a r=>exact JH false (a::r) r.length (by simpa using h1)
 exact AC.ent h (Ent.mk (ms:=[]) (ts:=[(0,dS l)]) hT [(.b 0,l.length)] ⟨⟨_,rfl,Nat.le_refl _⟩,tt⟩ ⟨⟨rfl,_,rfl,fG rfl rfl rfl (fun h=>by cases h) (by simp [dP,aI]) (fun j hj=>by rw [Nat.zero_add];exact ⟨rfl,AEq.refl _⟩)⟩,tt⟩ trivial rfl)
theorem Rf (l:List bI):AC Tryz.prog T bn 144 [dS l] [] (.row 122 true l.length (fun i=>aV (l.getD i dX))) []:=by
 refine aA hT Tryz.func144 rfl rfl (Nat.le_of_ble_eq_true rfl) ?_;refine sg rfl ?_;refine sg rfl ?_;refine WP.ret ?_;change Fin ..;refine aJ hT [] (ts:=[(2,.row 122 true l.length (fun i=>aV (l.getD i dX)))]) (l:=[.row 122 true l.length (fun i=>aV (l.getD i dX))]) trivial ⟨⟨rfl,_,rfl,?_⟩,tt⟩ trivial rfl rfl rfl;refine ah ?_;simp [Uw,slB]
structure yQ where
 picks:List bI
 cut:Bool
 rep:Bool
 deriving DecidableEq
def DW:yQ:=⟨[],false,false⟩
def uQ (x:yQ):AV:=cu 45 [dS x.picks,.bool x.cut,.bool x.rep]
theorem Ag (ids:List Id) (x:yQ):fB ids (uQ x)=true:=rfl
def Dj (n m:Nat) (i j:Id):AV:=cu 105 [.own i n 0 n none,.own j m 0 m none]
def nS (n m:Nat) (i j:Id):Ob := .cells ⟨105,1,fun _=>Dj n m i j,0⟩
abbrev dH (l:List yQ):Ob:=bK 45 uQ DW l
abbrev jO (l:List PSt):Ob:=bK 62 encS st0 l
def vS (b:iq) (L:List yQ):Bool:=decide ((L.length:Int)<b.runs)
def uq (b:iq) (L:List yQ) (x:yQ):List yQ:=if vS b L then L++[x]else L
def uw (b:iq) (L:List yQ) (E:List PSt) (s:PSt):List PSt:=if vS b L then E++[s]else E
theorem WA (b:iq) (hb:xQ b) (L:List yQ) (E:List PSt) (hE:E.length=L.length) (picks:List bI) (hp:picks.length≤256) (s:PSt) (cut:Bool):AC Tryz.prog T bn 99 [dS picks,encS s,.bool cut,.ptr (.b 0) 1 0 [],.rp 28 (dD b)] [nS L.length E.length (.b 1) (.b 2),dH L,jO E] (.bool (vS b L)) [nS (uq b L ⟨picks,cut,false⟩).length (uw b L E s).length (.b 1) (.b 2),dH (uq b L ⟨picks,cut,false⟩),jO (uw b L E s)]:=by
 refine aA hT Tryz.func99 rfl rfl (Nat.le_of_ble_eq_true rfl) ?_;obtain ⟨_,_,hb3,hb4⟩:=hb;refine sg rfl ?_;refine sq (sq ?_);refine WP.ent (st':=aK [(0,dS picks),(2,.bool cut),(3,.ptr (.b 0) 1 0 []),(4,.rp 28 (dD b)),(6,.rp 62 (encS s)),(8,.bool false)] [(.b 0,nS L.length E.length (.b 1) (.b 2)),(.b 1,dH L),(.b 2,jO E)]) ?_ ?_
 ·refine em [(.s 6 0,1)] ⟨sF,tt⟩ ⟨cq,cq,cq,cq,rq,cq,tt⟩ ⟨obs rfl,obs rfl,obs rfl,tt⟩
 refine rg [] rfl ?_;refine cd rfl (fun h1=>?_) (fun h1=>?_)
 ·have ht:vS b L=false:=by simp [-List.getD_eq_getElem?_getD,vS]at h1 ⊢;omega
  refine sg rfl ?_;refine WP.ret ?_;change Fin ..;rw [show uq b L ⟨picks,cut,false⟩=L by rw [uq,ht];rfl,show uw b L E s=E by rw [uw,ht];rfl,ht];refine aJ hT [] (ts:=[(8,.bool false)]) (l:=[.bool false]) trivial ⟨cq,tt⟩ ⟨obs rfl,obs rfl,obs rfl,tt⟩ rfl rfl rfl
 ·have ht:vS b L=true:=by simp [-List.getD_eq_getElem?_getD,vS]at h1 ⊢;omega
  have hl:(L.length:Int)<b.runs:=by simpa [vS]using ht
  refine sk (sq (drs [CG.pure (dS picks)] rfl ?_ ?_))
  ·have hq:=NT picks (by omega);have hbt:(T 45).bytes=32:=rfl
   exact au
  refine sq (rgs [] rfl ?_ ?_)
  ·have hbs:(T 62).bytes≤1024:=by decide
   have hm:(E.length+1)*(T 62).bytes≤(E.length+1)*1024:=Nat.mul_le_mul_left _ hbs;exact au
  refine sg rfl ?_;refine WP.ret ?_;change Fin ..;have e1:uq b L ⟨picks,cut,false⟩=L++[⟨picks,cut,false⟩]:=by rw [uq,if_pos ht]
  have e2:uw b L E s=E++[s]:=by rw [uw,if_pos ht]
  rw [e1,e2,ht];refine aJ hT [] (ts:=[(8,.bool true)]) (l:=[.bool true]) trivial ⟨cq,tt⟩ ⟨obs rfl (hg:=q0 (ah ?_)),bU (Ag _) rfl rfl (by rw [bH]) rfl rfl (JO (z:=(T 45).zero) rfl (bg fun q=>by match q with | 0 | 1 | 2 | q+3=>rfl) (fun q hq=>rfl)),bU (Xo _) rfl rfl (by rw [bH]) rfl rfl (JO (z:=(T 62).zero) rfl rfl (fun q hq=>rfl)),tt⟩ rfl rfl rfl;rw [bH,bH];exact bg fun q=>by match q with | 0 | 1 | q+2=>rfl
structure TS where
 runs:List yQ
 ends:List PSt
 spun:Bool
 short:Bool
 over:Bool
def QT (p:ay) (b:iq) (t:TS):AV:=cu 206 [aj p,dD b,.clo 99 [.ptr (.b 1) 1 0 [],.rp 28 (dD b)],.bool t.spun,.bool t.short,.bool t.over]
abbrev xO (p:ay) (b:iq) (t:TS):Ob := .cells ⟨206,1,fun _=>QT p b t,0⟩
abbrev fO (t:TS):Ob:=nS t.runs.length t.ends.length (.b 2) (.b 3)
theorem DZ (σ:Id→Id) (b:iq):ren σ (dD b)=dD b:=bg (fun q=>by match q with | 0 | 1 | 2 | q+3=>rfl)
theorem lg (σ:Id→Id) (x:yQ):ren σ (uQ x)=uQ x:=bg (fun q=>by match q with | 0 | 1 | 2 | q+3=>rfl)
theorem YM {σ:Id→Id} (h1:σ (.b 1) = .b 1) (p:ay) (b:iq) (t:TS):ren σ (QT p b t)=QT p b t:=bg (fun q=>by
 match q with
 | 0=>exact sZ σ p
 | 1=>exact DZ σ b
 | 2=>show AV.clo _ [.ptr (σ (.b 1)) 1 0 [],.rp _ (dD b)]=_;rw [h1];rfl
 | 3 | 4 | 5 | q+6=>rfl)
theorem YN {σ:Id→Id} (h1:σ (.b 1) = .b 1) (p:ay) (b:iq) (t:TS):gW σ (xO p b t)=xO p b t:=by
 show Ob.cells ⟨_,_,fun _=>ren σ (QT p b t),_⟩=_;rw [YM h1]
theorem rM {σ:Id→Id} {n m:Nat} {i j i' j':Id} (h1:σ i=i') (h2:σ j=j'):ren σ (Dj n m i j)=Dj n m i' j':=bg (fun q=>by
 match q with
 | 0=>show AV.own (σ i) n 0 n none=_;rw [h1];rfl
 | 1=>show AV.own (σ j) m 0 m none=_;rw [h2];rfl
 | q+2=>rfl)
theorem wW {σ:Id→Id} {n m:Nat} {i j i' j':Id} (h1:σ i=i') (h2:σ j=j'):gW σ (nS n m i j)=nS n m i' j':=by
 show Ob.cells ⟨_,_,fun _=>ren σ (Dj n m i j),_⟩=_;rw [rM h1 h2];rfl
theorem Pz (p:ay) (b:iq) (t:TS) (x:Bool):(QT p b t).put [3] (.bool x)=QT p b { t with spun:=x}:=bG (Nat.le_of_ble_eq_true rfl)
theorem Nr (p:ay) (b:iq) (t:TS) (x:Bool):(QT p b t).put [4] (.bool x)=QT p b { t with short:=x}:=bG (Nat.le_of_ble_eq_true rfl)
theorem PD (p:ay) (b:iq) (t:TS) (x:Bool):(QT p b t).put [5] (.bool x)=QT p b { t with over:=x}:=bG (Nat.le_of_ble_eq_true rfl)
def kY (z:Bool) (s:PSt):Nat→Bool
 | 0=>z
 | k+1=>kY z s k||(s.gos.getD k go0).status==5
abbrev ql (t:TS) (s:PSt) (k:Nat):TS:={ t with spun:=kY t.spun s k}
def yM (b:iq) (s:PSt) (picks:List bI) (cut:Bool) (t:TS):TS :=
 if vS b t.runs=false then { t with over:=true}else { t with runs:=t.runs++[⟨picks,cut,false⟩],ends:=t.ends++[s],short:=t.short||cut}
def onF (p:ay) (b:iq):Nat→PSt→List bI→TS→TS
 | 0,s,picks,t=>yM b s picks (!(aN p s).isEmpty) (ql t s 6)
 | k+1,s,picks,t=>if aN p s=[]then yM b s picks false (ql t s 6)else
  (aN p s).foldl (fun t x=>if t.over=true then t else onF p b k (doF p s x b.fuel).1 (picks++[x]) t) (ql t s 6)
abbrev RJ (p:ay) (b:iq) (k:Nat) (s:PSt) (picks:List bI) (t:TS) (x:bI):TS:=if t.over=true then t else onF p b k (doF p s x b.fuel).1 (picks++[x]) t
theorem Gt {b:iq} {s:PSt} {picks:List bI} {c:Bool} {t:TS} (h:t.ends.length=t.runs.length):(yM b s picks c t).ends.length=(yM b s picks c t).runs.length:=by
 unfold yM;split
 ·exact h
 ·simp [h]
theorem LP {α β:Type} {f:β→α→β} {P:β→Prop} (h:∀ b a,P b→P (f b a)):∀ (l:List α) (b:β),P b→P (l.foldl f b)
 | [],_,hb=>hb
 | a::r,b,hb=>LP h r _ (h b a hb)
theorem PX {p:ay} {b:iq}:∀ (k:Nat) (s:PSt) (picks:List bI) (t:TS),t.ends.length=t.runs.length→(onF p b k s picks t).ends.length=(onF p b k s picks t).runs.length
 | 0,s,picks,t,h=>Gt h
 | k+1,s,picks,t,h=>by
  rw [onF];split
  ·exact Gt h
  ·refine LP (P:=fun t:TS=>t.ends.length=t.runs.length) (fun t x ht=>?_) _ _ h;show (RJ p b k s picks t x).ends.length=(RJ p b k s picks t x).runs.length
   unfold RJ;split
   ·exact ht
   ·exact PX k _ _ _ ht
theorem GX {p:ay} {b:iq} {k:Nat} {s:PSt} {picks:List bI}:∀ (l:List bI) (t:TS),t.over=true→l.foldl (RJ p b k s picks) t=t
 | [],_,_=>rfl
 | x::r,t,h=>by
  have e:RJ p b k s picks t x=t:=if_pos h;rw [List.foldl_cons,e];exact GX r t h
theorem Sr (b:iq) (hb:xQ b) (t:TS) (hE:t.ends.length=t.runs.length) (picks:List bI) (hp:picks.length≤256) (s:PSt) (cut:Bool):AC Tryz.prog T bn 99 [dS picks,ren (sig [.b 1,.b 2,.b 3] 0) (encS s),.bool cut,.ptr (.b 0) 1 0 [],.rp 28 (dD b)] [gW (sig [.b 1,.b 2,.b 3] 0) (fO t),gW (sig [.b 1,.b 2,.b 3] 0) (dH t.runs),gW (sig [.b 1,.b 2,.b 3] 0) (jO t.ends)] (.bool (vS b t.runs)) [nS (uq b t.runs ⟨picks,cut,false⟩).length (uw b t.runs t.ends s).length (.b 1) (.b 2),dH (uq b t.runs ⟨picks,cut,false⟩),jO (uw b t.runs t.ends s)]:=by
 rw [vY,wW (i' := .b 1) (j' := .b 2) rfl rfl,gX (lg _),gX (vY _)];exact WA b hb t.runs t.ends hE picks hp s cut
theorem Xk {p:ay} {b:iq} {k:Nat} {s:PSt} {picks:List bI} {t:TS} (h:aN p s=[]∨k=0):onF p b k s picks t=yM b s picks (!(aN p s).isEmpty) (ql t s 6):=by
 cases k with
 | zero=>rfl
 | succ k =>
  have hz:aN p s=[]:=h.resolve_right (by omega);rw [onF,if_pos hz,hz];rfl
theorem Xl {p:ay} {b:iq} {k:Nat} {s:PSt} {picks:List bI} {t:TS} (h:aN p s≠[]):onF p b (k+1) s picks t=(aN p s).foldl (RJ p b k s picks) (ql t s 6):=by
 rw [onF,if_neg h]
theorem Xa {σ:Id→Id} (h2:σ (.b 2) = .b 2) (h3:σ (.b 3) = .b 3) (t:TS):gW σ (fO t)=fO t:=wW h2 h3
abbrev Zz (p:ay) (b:iq) (k:Nat):Prop := ∀ (s:PSt) (picks:List bI) (t:TS),picks.length+k=b.steps.toNat→OkS s→t.ends.length=t.runs.length→AC Tryz.prog T bn 102 [.ptr (.b 0) 1 0 [],encS s,dS picks] [xO p b t,fO t,dH t.runs,jO t.ends] (.tup []) [xO p b (onF p b k s picks t),fO (onF p b k s picks t),dH (onF p b k s picks t).runs,jO (onF p b k s picks t).ends]
theorem VJ {ids:List Id} {n m:Nat} {i j:Id} {L:List yQ} {E:List PSt} (h:fB ids (Dj n m i j)=true):oG ids [nS n m i j,dH L,jO E]:=⟨fun _ _=>h,fun _ _=>rfl,fun _ _=>rfl,tt⟩
theorem Y1 {p:ay} {b:iq} {k:Nat} (ih:Zz p b k) (s:PSt) (picks:List bI) (t:TS) (h1:picks.length+k=b.steps.toNat) (h2:OkS s) (h3:t.ends.length=t.runs.length):AC Tryz.prog T bn 102 [.ptr (.b 0) 1 0 [],ren (sig [.b 0,.b 1,.b 2,.b 3] 0) (encS s),dS picks] [gW (sig [.b 0,.b 1,.b 2,.b 3] 0) (xO p b t),gW (sig [.b 0,.b 1,.b 2,.b 3] 0) (fO t),gW (sig [.b 0,.b 1,.b 2,.b 3] 0) (dH t.runs),gW (sig [.b 0,.b 1,.b 2,.b 3] 0) (jO t.ends)] (.tup []) [xO p b (onF p b k s picks t),fO (onF p b k s picks t),dH (onF p b k s picks t).runs,jO (onF p b k s picks t).ends]:=by
 rw [vY,YN rfl,Xa rfl rfl,gX (lg _),gX (vY _)];exact ih s picks t h1 h2 h3
theorem Rw (l:List bI) (x:bI) (j:Nat) (hj:j<l.length+1) {g:Nat→AV} (hg:g 0=aV x):og l.length 1 (fun i=>aV (l.getD i dX)) g j=aV ((l++[x]).getD j dX):=by
 show (bif Nat.beq j l.length then g 0 else aV (l.getD j dX))=_;cases hz:Nat.beq j l.length with
 | true =>
  have:=Nat.eq_of_beq_eq_true hz;subst this;simp [List.getD_eq_getElem?_getD,hg]
 | false =>
  have hne:j≠l.length:=fun e=>by subst e;simp at hz
  simp only [cond_false];simp only [List.getD_eq_getElem?_getD,List.getElem?_append_left (show j<l.length by omega)]
theorem PY {ids:List Id} {p:ay} {b:iq} {t:TS} {n m:Nat} {i j:Id} {L:List yQ} {E:List PSt} (h:fB ids (Dj n m i j)=true) (h2:fB ids (QT p b t)=true):oG ids [xO p b t,nS n m i j,dH L,jO E]:=⟨fun _ _=>h2,fun _ _=>h,fun _ _=>rfl,fun _ _=>rfl,tt⟩
theorem YZ {p:ay} {b:iq} {k:Nat} (ih:Zz p b k) (s:PSt) (picks:List bI) (x:bI) (t:TS) (h1:picks.length+1+k=b.steps.toNat) (h2:OkS s) (h3:t.ends.length=t.runs.length) {n:Nat} {f:Bool} {g:Nat→AV} (hn:n=picks.length+1) (hg:∀ j,j<picks.length+1→g j=aV ((picks++[x]).getD j dX)):AC Tryz.prog T bn 102 [.ptr (.b 0) 1 0 [],ren (sig [.b 0,.b 1,.b 2,.b 3] 0) (encS s),.row 122 f n g] [gW (sig [.b 0,.b 1,.b 2,.b 3] 0) (xO p b t),gW (sig [.b 0,.b 1,.b 2,.b 3] 0) (fO t),gW (sig [.b 0,.b 1,.b 2,.b 3] 0) (dH t.runs),gW (sig [.b 0,.b 1,.b 2,.b 3] 0) (jO t.ends)] (.tup []) [xO p b (onF p b k s (picks++[x]) t),fO (onF p b k s (picks++[x]) t),dH (onF p b k s (picks++[x]) t).runs,jO (onF p b k s (picks++[x]) t).ends]:=by
 subst hn;refine AC.args hT (Y1 ih s (picks++[x]) t (by rw [bH];exact h1) h2 h3) rfl (fun i a c ha hc=>?_)
 match i,ha,hc with
 | 0,ha,hc=>cases ha;cases hc;exact ah rfl
 | 1,ha,hc=>cases ha;cases hc;exact ah rfl
 | 2,ha,hc =>
  cases ha;cases hc;have e:dS (picks++[x]) = .row 122 false (picks.length+1) (fun i=>aV ((picks++[x]).getD i dX)):=by rw [← bH picks x];rfl
  rw [e];exact Bh (fun h=>by cases h) hg
theorem PW (p:ay) (b:iq) (hb:xQ b) (k:Nat) (ih:∀ k',k=k'+1→Zz p b k') (s:PSt) (picks:List bI) (t:TS) (hk:picks.length+k=b.steps.toNat) (hs:OkS s) (ht:t.ends.length=t.runs.length):AC Tryz.prog T bn 102 [.ptr (.b 0) 1 0 [],encS s,dS picks] [xO p b t,fO t,dH t.runs,jO t.ends] (.tup []) [xO p b (onF p b k s picks t),fO (onF p b k s picks t),dH (onF p b k s picks t).runs,jO (onF p b k s picks t).ends]:=by
 refine aA hT Tryz.func102 rfl rfl (Nat.le_of_ble_eq_true rfl) ?_;have hb1:=hb.1
 refine sg rfl ?_;refine sq (sq ?_);refine WP.ent (st':=aK [(0,.ptr (.b 0) 1 0 []),(2,dS picks),(4,.rp 62 (encS s))] [(.b 0,xO p b t),(.b 1,fO t),(.b 2,dH t.runs),(.b 3,jO t.ends)]) ?_ ?_
 ·refine em [(.s 4 0,1)] ⟨sF,tt⟩ ⟨cq,cq,rq,tt⟩ ⟨obs rfl,obs rfl,obs rfl,obs rfl,tt⟩
 refine rg [] rfl ?_;refine bk ?_;refine WP.loop (α:=Nat) (fun i=>aK [(0,.ptr (.b 0) 1 0 []),(2,dS picks),(4,.rp 62 (encS s)),(17,ET 60 6 bP go0 s.gos),(18,.int i)] [(.b 0,xO p b (ql t s i)),(.b 1,fO t),(.b 2,dH t.runs),(.b 3,jO t.ends)]) (fun i=>i≤6) (fun i=>6 - i) ?_ ?_
 ·refine ⟨0,?_,?_⟩
  ·omega
  ·refine em [] trivial ⟨cq,cq,cq,cq,cq,tt⟩ ⟨obs rfl,obs rfl,obs rfl,obs rfl,tt⟩
 ·rintro i hi;refine sg rfl ?_;refine sq ?_;refine cd rfl (fun h2=>?_) (fun h2=>?_)
  ·have hil:i<6:=by simp [-List.getD_eq_getElem?_getD]at h2;omega
   refine sk (sq (bk (sq (rgs [] rfl ?_ ?_))))
   ·simp [-List.getD_eq_getElem?_getD,ak,under];omega
   refine rg [] rfl ?_;refine rg [] rfl ?_;refine ⟨i+1,?_,?_,?_⟩
   ·omega
   ·refine em [] trivial ⟨cq,cq,cq,cq,cq,tt⟩ ⟨obs rfl (hg:=q0 (ah ((Pz p b (ql t s i) _).trans (by rfl)))),obs rfl,obs rfl,obs rfl,tt⟩
   ·(try simp only []);first | omega | grind
  ·have hil:i=6:=by simp [-List.getD_eq_getElem?_getD]at h2;omega
   subst hil;refine xt (sq (drs [CG.pure (.tup [dS (aN p s),.int (vM p s)])] rfl ?_ ?_))
   ·clear ih;have hq:=FV p s hs
    exact au
   refine sq (sq (rg [] rfl ?_));refine cd rfl (fun h7=>?_) (fun h7=>?_)
   ·have hz:aN p s=[]∨k=0:=by
     rcases Nat.eq_zero_or_pos (aN p s).length with h8 | h8
     ·exact .inl (List.eq_nil_of_length_eq_zero h8)
     ·refine .inr ?_;rw [show (((aN p s).length:Int)==0)=false from beq_eq_false_iff_ne.2 (by omega)]at h7;have h9:(picks.length:Int)=b.steps:=by simpa using h7
      omega
    rw [Xk hz];refine sg rfl ?_;refine sq (sq ?_);refine WP.ent (st':=aK [(0,.ptr (.b 0) 1 0 []),(2,dS picks),(4,.rp 62 (encS s)),(10,.bool (!(aN p s).isEmpty))] [(.b 0,xO p b (ql t s 6)),(.b 1,fO t),(.b 2,dH t.runs),(.b 3,jO t.ends)]) ?_ ?_
    ·refine em [] trivial ⟨cq,cq,cq,⟨rfl,_,rfl,ah (by cases (aN p s) <;> simp)⟩,tt⟩ ⟨obs rfl,obs rfl,obs rfl,obs rfl,tt⟩
    refine drs [⟨true,[.b 1,.b 2,.b 3],.bool (vS b t.runs),[nS (uq b t.runs ⟨picks,!(aN p s).isEmpty,false⟩).length (uw b t.runs t.ends s).length (.b 1) (.b 2),dH (uq b t.runs ⟨picks,!(aN p s).isEmpty,false⟩),jO (uw b t.runs t.ends s)]⟩] rfl ?_ ?_
    ·clear ih;have hq:=Sr b hb t ht picks (by omega) s (!(aN p s).isEmpty)
     have hk1:oG [.b 1,.b 2,.b 3] [fO t,dH t.runs,jO t.ends]:=VJ rfl;have hk2:oG (bs 3) [nS (uq b t.runs ⟨picks,!(aN p s).isEmpty,false⟩).length (uw b t.runs t.ends s).length (.b 1) (.b 2),dH (uq b t.runs ⟨picks,!(aN p s).isEmpty,false⟩),jO (uw b t.runs t.ends s)]:=VJ rfl
     exact au
    refine cd rfl (fun h9=>?_) (fun h9=>?_)
    ·have hb0:vS b t.runs=false:=by simpa using h9
     have e1:∀ x,uq b t.runs x=t.runs:=fun x=>by rw [uq,hb0];rfl
     have e2:uw b t.runs t.ends s=t.ends:=by rw [uw,hb0];rfl
     refine sg rfl ?_;refine WP.ret ?_;change Fin ..;rw [show yM b s picks (!(aN p s).isEmpty) (ql t s 6)={ ql t s 6 with over:=true} by rw [yM,if_pos hb0]];simp only [e1,e2];exact aJ hT [] (ts:=[]) (l:=[]) trivial trivial ⟨obs rfl (hg:=q0 (ah (PD p b (ql t s 6) true))),obs rfl (hg:=q0 (ah (rM rfl rfl))),obs rfl (hg:=fun q hq=>ah (lg _ _)),obs rfl (hg:=fun q hq=>ah (vY _ _)),tt⟩ rfl rfl rfl
    ·have hb0:vS b t.runs=true:=by simpa using h9
     have e1:∀ x,uq b t.runs x=t.runs++[x]:=fun x=>by rw [uq,if_pos hb0]
     have e2:uw b t.runs t.ends s=t.ends++[s]:=by rw [uw,if_pos hb0]
     refine sk (sq (rg [] rfl ?_));refine WP.ret ?_;change Fin ..;rw [show yM b s picks (!(aN p s).isEmpty) (ql t s 6)={ ql t s 6 with runs:=t.runs++[⟨picks,!(aN p s).isEmpty,false⟩],ends:=t.ends++[s],short:=t.short || !(aN p s).isEmpty} by rw [yM,if_neg (by rw [show (ql t s 6).runs=t.runs from rfl,hb0];decide)]];simp only [e1,e2];exact aJ hT [] (ts:=[]) (l:=[]) trivial trivial ⟨obs rfl (hg:=q0 (ah ((Nr p b (ql t s 6) _).trans (by rfl)))),obs rfl (hg:=q0 (ah (rM rfl rfl))),obs rfl (hg:=fun q hq=>ah (lg _ _)),obs rfl (hg:=fun q hq=>ah (vY _ _)),tt⟩ rfl rfl rfl
   ·have hz:aN p s≠[]:=fun e=>by rw [e]at h7;cases h7
    obtain ⟨n,hn⟩:∃ n,k=n+1:=by
     refine ⟨k - 1,?_⟩;rw [show (((aN p s).length:Int)==0)=false from beq_eq_false_iff_ne.2 (by have:=List.length_pos_iff.2 hz;omega)]at h7;have h9:(picks.length:Int)≠b.steps:=by simpa using h7
     omega
    subst hn;rw [Xl hz];refine sk (sq (rg [] rfl ?_));refine bk ?_;refine WP.loop (α:=Nat×TS) (fun (⟨i,z⟩:Nat×TS)=>aK [(0,.ptr (.b 0) 1 0 []),(2,dS picks),(4,.rp 62 (encS s)),(81,dS (aN p s)),(82,.int (aN p s).length),(83,.int i)] [(.b 0,xO p b z),(.b 1,fO z),(.b 2,dH z.runs),(.b 3,jO z.ends)]) (fun (⟨i,z⟩:Nat×TS)=>i≤(aN p s).length∧z.ends.length=z.runs.length∧((aN p s).drop i).foldl (RJ p b n s picks) z=(aN p s).foldl (RJ p b n s picks) (ql t s 6)) (fun (⟨i,z⟩:Nat×TS)=>(aN p s).length - i) ?_ ?_
    ·refine ⟨⟨0,ql t s 6⟩,?_,?_⟩
     ·exact ⟨Nat.zero_le _,ht,rfl⟩
     ·refine em [] trivial ⟨cq,cq,cq,cq,cq,cq,tt⟩ ⟨obs rfl,obs rfl,obs rfl,obs rfl,tt⟩
    ·rintro ⟨i,z⟩ ⟨hi2,hze,hfl⟩;refine WP.rowlen 81 rfl (fun hl=>?_);refine sg rfl ?_;refine sq ?_;refine cd rfl (fun h13=>?_) (fun h13=>?_)
     ·have hil:i<(aN p s).length:=by simp [-List.getD_eq_getElem?_getD]at h13;omega
      have hdr:(aN p s).drop i=(aN p s).getD i dX::(aN p s).drop (i+1):=by rw [List.drop_eq_getElem_cons hil];simp [hil]
      rw [hdr,List.foldl_cons]at hfl;obtain ⟨x,hx⟩:∃ x,(aN p s).getD i dX=x:=⟨_,rfl⟩;rw [hx]at hfl;refine sk (sq (bk (sq (rg [] rfl ?_))));refine sq (sq ?_);refine WP.ent (st':=aK [(0,.ptr (.b 0) 1 0 []),(2,dS picks),(4,.rp 62 (encS s)),(12,.rp 122 (aV x)),(81,dS (aN p s)),(82,.int (aN p s).length),(83,.int i)] [(.b 0,xO p b z),(.b 1,fO z),(.b 2,dH z.runs),(.b 3,jO z.ends)]) ?_ ?_
      ·refine em [(.s 12 0,1)] ⟨sF,tt⟩ ⟨cq,cq,cq,⟨rfl,_,rfl,aZ rfl rfl (by decide) rfl (by rw [← hx];rfl) rfl⟩,cq,cq,cq,tt⟩ ⟨obs rfl,obs rfl,obs rfl,obs rfl,tt⟩
      refine rg [] rfl ?_;refine cd rfl (fun h15=>?_) (fun h15=>?_)
      ·refine WP.ret ?_;change Fin ..;have ho:z.over=true:=h15
       have e3:RJ p b n s picks z x=z:=if_pos ho;rw [e3,GX _ _ ho]at hfl;rw [← hfl];exact aJ hT [] (ts:=[]) (l:=[]) trivial trivial ⟨obs rfl,obs rfl,obs rfl,obs rfl,tt⟩ rfl rfl rfl
      ·have ho:¬ z.over=true:=fun e=>absurd (e.symm.trans h15) (by decide);have e3:RJ p b n s picks z x=onF p b n (doF p s x b.fuel).1 (picks++[x]) z:=if_neg ho
       refine sk (sq (drs [CG.pure (.tup [encS (doF p s x b.fuel).1,kF (doF p s x b.fuel).2.1,.int (doF p s x b.fuel).2.2])] rfl ?_ ?_))
       ·clear ih;have hq:=Zj p s x b.fuel hs
        exact au
       refine drs [CG.pure (.row 122 true picks.length (fun i=>aV (picks.getD i dX))),⟨true,[.b 0,.b 1,.b 2,.b 3],.tup [],[xO p b (onF p b n (doF p s x b.fuel).1 (picks++[x]) z),fO (onF p b n (doF p s x b.fuel).1 (picks++[x]) z),dH (onF p b n (doF p s x b.fuel).1 (picks++[x]) z).runs,jO (onF p b n (doF p s x b.fuel).1 (picks++[x]) z).ends]⟩] rfl ?_ ?_
       ·have hq1:=Rf picks;have hbt:(T 122).bytes=16:=rfl
        have hk1:oG [.b 0,.b 1,.b 2,.b 3] [xO p b z,fO z,dH z.runs,jO z.ends]:=PY rfl rfl;have hk2:oG (bs 4) [xO p b (onF p b n (doF p s x b.fuel).1 (picks++[x]) z),fO (onF p b n (doF p s x b.fuel).1 (picks++[x]) z),dH (onF p b n (doF p s x b.fuel).1 (picks++[x]) z).runs,jO (onF p b n (doF p s x b.fuel).1 (picks++[x]) z).ends]:=PY rfl rfl
        have ih1:=ih n rfl;clear ih;have hps:picks.length+1+n=b.steps.toNat:=by omega
        have hpl:picks.length<256:=by omega
        have hod:=X8 (p:=p) (x:=x) (n:=b.fuel) hs;simp only [ak,under,CG.pure]
        repeat' with_reducible refine And.intro ?_ ?_
        all_goals (try with_reducible intros)
        all_goals (first | exact trivial | assumption | omega | exact hq1 | (refine (congrArg eG (Rw picks x _ ?_ ?_)).trans rfl <;> first | rfl | omega) | (exact YZ ih1 _ picks x z hps hod hze (by rfl) (fun j hj=>Rw picks x j hj (by rfl))) | (rw [hbt];omega) | (simp;done) | trace_state)
       refine rg [] rfl ?_;refine ⟨⟨i+1,onF p b n (doF p s x b.fuel).1 (picks++[x]) z⟩,?_,?_,?_⟩
       ·exact ⟨hil,PX _ _ _ _ hze,by rw [← hfl,e3]⟩
       ·refine em [] trivial ⟨cq,cq,cq,cq,cq,cq,tt⟩ ⟨obs rfl (hg:=q0 (ah (YM rfl p b _))),obs rfl (hg:=q0 (ah (rM rfl rfl))),obs rfl (hg:=fun q hq=>ah (lg _ _)),obs rfl (hg:=fun q hq=>ah (vY _ _)),tt⟩
       ·(try simp only []);first | omega | grind
     ·have hil:i=(aN p s).length:=by simp [-List.getD_eq_getElem?_getD]at h13;omega
      refine xt ?_;rw [hil,List.drop_length]at hfl;have hfl:z=_:=hfl
      rw [← hfl];exact aJ hT [] (ts:=[]) (l:=[]) trivial trivial ⟨obs rfl,obs rfl,obs rfl,obs rfl,tt⟩ rfl rfl rfl
section
variable {P:Program} {T:Nat→TI} {N:Nat}
theorem Ze (hT:TOK P T N) {nt k j t i i':Nat} {st:St} {y:AV} {a a' b b':Value} {B:Blk} (F:List (Id×Nat)) (hF:UU st F) (h:st.t k=some (.always,.ptr (.s j 0) 1 0 [])) (h2:st.t i=some (.always,.v a)) (h3:st.t i'=some (.always,.v a')) (hm:st.m (.s j 0)=some (.cells B)) (hy:Conv st.m (fun id=>dP id F) T (B.get 0) y) (he:a=b) (he':a'=b')
 (hz:dP (.s j 0) F=0:=by rfl) (hno:eG y=true:=by rfl) (hok:fB [.s j 0] y=true:=by rfl) (hnt:nO y=true:=by rfl) (hik:Nat.beq i k=false:=by rfl) (hik':Nat.beq i' k=false:=by rfl) (hii':Nat.beq i' i=false:=by rfl) (hty:B.ty=t:=by rfl) (hn:B.n=1:=by rfl) (hfz:B.fz=0:=by rfl):Fin T N nt 0 [.cell k t,.tmp i,.tmp i'] (.tup [y,.v b,.v b']) [] st:=by
 obtain ⟨ty,n,get,fz⟩:=B;simp only at hty hn hfz hy;subst hty hn hfz he he';refine Fin.ent (Ent.mk (P:=P) hT F (ts:=[(k,.ptr (.s j 0) 1 0 []),(i,.v a),(i',.v a')]) (ms:=[(.s j 0,.cells ⟨ty,1,fun _=>y,0⟩)]) hF ⟨⟨by simp [fB,iI,aI],_,h,ah rfl⟩,⟨rfl,_,h2,ah rfl⟩,⟨rfl,_,h3,ah rfl⟩,tt⟩ ⟨⟨fun _ _=>hok,.inl ⟨_,hm,_,_,rfl,Nat.le_refl _,by rw [hz];exact Nat.zero_le _,Nat.zero_le _,q0 hy⟩⟩,tt⟩ rfl) ?_;have h1:(aK [(k,AV.ptr (.s j 0) 1 0 []),(i,.v a),(i',.v a')] [(.s j 0,Ob.cells ⟨ty,1,fun _=>y,0⟩)]).m (.s j 0)=some (.cells ⟨ty,1,fun _=>y,0⟩):=by simp [aK,ni,aI]
 have hkk:Nat.beq k k=true:=by simp
 have hii:Nat.beq i i=true:=by simp
 have hjj:Nat.beq i' i'=true:=by simp
 refine aJ hT [(.s j 0,1)] (ts:=[(k,.rp ty y),(i,.v a),(i',.v a')]) (l:=[y,.v a,.v a']) ⟨⟨_,h1,Nat.le_refl _⟩,tt⟩ ⟨⟨rfl,.ptr (.s j 0) 1 0 [],by simp only [aK,lZ,hkk];rfl,?_⟩,⟨rfl,_,by simp only [aK,lZ,hik,hii];rfl,ah rfl⟩,⟨rfl,_,by simp only [aK,lZ,hik',hii',hjj];rfl,ah rfl⟩,tt⟩ trivial rfl ?_ rfl
 ·exact aZ h1 rfl (by simp [dP,aI]) rfl (by show y.at []=y;cases y <;> rfl) hno
 ·have ht:Nat.beq ty ty=true:=by simp
  simp only [FU,aK,lZ,hkk,hii,hik,hik',hii',hjj,cond_true,cond_false,Option.map_some];simp [ldA,ht,Ih,aT,nOf,iD,hnt,show nO (AV.v a)=true from rfl,show nO (AV.v a')=true from rfl]
end
theorem YX {p:ay} {b:iq} (hb:xQ b):∀ k,Zz p b k
 | 0=>fun s picks t h1 h2 h3=>PW p b hb 0 (fun _ e=>by cases e) s picks t h1 h2 h3
 | k+1=>fun s picks t h1 h2 h3=>PW p b hb (k+1) (fun j e=>by cases e;exact YX hb k) s picks t h1 h2 h3
def ts0:TS:=⟨[],[],false,false,false⟩
def kX (p:ay) (b:iq):TS:=if gZ p 0 b=0 then onF p b b.steps.toNat (bV p b.fuel).1 [] ts0 else ts0
def qK (p:ay) (b:iq):Bool:=decide (gZ p 0 b=0) && !(kX p b).over && !(kX p b).short && !(kX p b).spun
abbrev O6 (l:List yQ):AV:=rowP 45 uQ DW l
abbrev ZO (l:List PSt):AV:=rowP 62 encS st0 l
def L6 (L:List yQ) (E:List PSt):AV:=cu 105 [O6 L,ZO E]
def Ht (i:Id) (p:ay) (b:iq) (t:TS):AV:=cu 206 [aj p,dD b,.clo 99 [.ptr i 1 0 [],.rp 28 (dD b)],.bool t.spun,.bool t.short,.bool t.over]
theorem VB {σ:Id→Id} {i j:Id} (h1:σ i=j) (p:ay) (b:iq) (t:TS):ren σ (Ht i p b t)=Ht j p b t:=bg (fun q=>by
 match q with
 | 0=>exact sZ σ p
 | 1=>exact DZ σ b
 | 2=>show AV.clo _ [.ptr (σ i) 1 0 [],.rp _ (dD b)]=_;rw [h1];rfl
 | 3 | 4 | 5 | q+6=>rfl)
theorem Y2 {p:ay} {b:iq} (hb:xQ b) (ids:List Id) (s:PSt) (h2:OkS s) {x f i j:Id} (hf:sig [x,f,i,j] 0 f = .b 1) (hi:sig [x,f,i,j] 0 i = .b 2) (hj:sig [x,f,i,j] 0 j = .b 3):AC Tryz.prog T bn 102 [.ptr (.b 0) 1 0 [],ren (sig [x,f,i,j] 0) (encS s),.v (.slice none 0 0)] [gW (sig [x,f,i,j] 0) (.cells ⟨206,1,fun _=>Ht f p b ts0,0⟩),gW (sig [x,f,i,j] 0) (nS 0 0 i j),gW (sig [x,f,i,j] 0) (dH []),gW (sig [x,f,i,j] 0) (jO [])] (.tup []) [xO p b (onF p b b.steps.toNat s [] ts0),fO (onF p b b.steps.toNat s [] ts0),dH (onF p b b.steps.toNat s [] ts0).runs,jO (onF p b b.steps.toNat s [] ts0).ends]:=by
 have e:gW (sig [x,f,i,j] 0) (.cells ⟨206,1,fun _=>Ht f p b ts0,0⟩)=xO p b ts0:=by
  show Ob.cells ⟨_,_,fun _=>ren _ (Ht f p b ts0),_⟩=_;rw [VB hf];rfl
 rw [vY,e,wW hi hj,gX (lg _),gX (vY _)];refine AC.args hT (YX hb b.steps.toNat s [] ts0 (by simp) h2 rfl) rfl (fun i a c ha hc=>?_)
 match i,ha,hc with
 | 0,ha,hc=>cases ha;cases hc;exact ah rfl
 | 1,ha,hc=>cases ha;cases hc;exact ah rfl
 | 2,ha,hc=>cases ha;cases hc;exact dJ (by decide)
theorem IW (p:ay) (b:iq):AC Tryz.prog T bn 53 [aj p,dD b] [] (.tup [L6 (kX p b).runs (kX p b).ends,.bool (qK p b),.int (gZ p 0 b)]) []:=by
 refine aA hT Tryz.func53 rfl rfl (Nat.le_of_ble_eq_true rfl) ?_;refine sg rfl ?_;refine sq (sq ?_);refine WP.ent (st':=aK [(2,.rp 26 (aj p)),(3,.rp 28 (dD b)),(5,.bool false),(4,.ptr (.s 4 0) 1 0 [])] [(.s 4 0,.cells ⟨105,1,fun _=>(T 105).zero,0⟩)]) (em [(.s 2 0,1),(.s 3 0,1)] ⟨sF,sF,tt⟩ ⟨rq,rq,cq,cq,tt⟩ ⟨obs rfl,tt⟩) ?_;refine rgs [CG.pure (.int (gZ p 0 b))] rfl ?_ ?_
 ·have hq:=Vg p b;exact au
 refine sg rfl ?_;refine cd rfl (fun h2=>?_) (fun h2=>?_)
 ·have hf:gZ p 0 b≠0:=by simpa using h2
  refine sg rfl ?_;refine WP.ret ?_;change Fin ..;rw [qK,kX,if_neg hf,decide_eq_false hf];exact Ze hT [] trivial rfl rfl rfl rfl ⟨_,rfl,fun i hi=>by match i with | 0=>exact dJ (by decide) | 1=>exact dJ (by decide) | i+2=>exact absurd hi (by simp)⟩ rfl rfl
 ·have hf:gZ p 0 b=0:=by simpa using h2
  have hb:=(XW hf).2.2;refine sk (sq (rg [] rfl ?_));refine sg rfl ?_;refine sq (rgs [CG.pure (.tup [encS (bV p b.fuel).1,.int (bV p b.fuel).2])] rfl ?_ ?_)
  ·have hq:=J7 p b.fuel;exact au
  refine sq ?_;refine WP.ent (st':=aK [(2,.rp 26 (aj p)),(3,.rp 28 (dD b)),(4,.ptr (.s 4 0) 1 0 []),(8,.ptr (.s 8 0) 1 0 []),(9,.ptr (.s 23 0) 1 0 []),(10,.rp 62 (encS (bV p b.fuel).1))] [(.s 4 0,.cells ⟨105,1,fun _=>(T 105).zero,0⟩),(.s 8 0,nS 0 0 (.s 900 0) (.s 901 0)),(.s 23 0,.cells ⟨206,1,fun _=>Ht (.s 8 0) p b ts0,0⟩),(.s 900 0,dH []),(.s 901 0,jO [])]) ?_ ?_
  ·refine em [(.s 10 0,1)] ⟨sF,tt⟩ ⟨cq,cq,cq,cq,cq,rq,tt⟩ ⟨obs rfl,obs rfl (hg:=q0 ⟨_,rfl,fun i hi=>by match i with | 0=>exact eU | 1=>exact eU | i+2=>exact absurd hi (by simp)⟩),obs rfl (hg:=q0 (ah (bg fun q=>by match q with | 0 | 1 | 2 | 3 | 4 | 5 | q+6=>rfl))),⟨fun _ _=>rfl,.inr ⟨rfl,45,_,rfl,by decide⟩⟩,⟨fun _ _=>rfl,.inr ⟨rfl,62,_,rfl,by decide⟩⟩,tt⟩
  refine rgs [⟨true,[.s 23 0,.s 8 0,.s 900 0,.s 901 0],.tup [],[xO p b (onF p b b.steps.toNat (bV p b.fuel).1 [] ts0),fO (onF p b b.steps.toNat (bV p b.fuel).1 [] ts0),dH (onF p b b.steps.toNat (bV p b.fuel).1 [] ts0).runs,jO (onF p b b.steps.toNat (bV p b.fuel).1 [] ts0).ends]⟩] rfl ?_ ?_
  ·have hq:=Y2 (p:=p) hb [] (bV p b.fuel).1 yR (x := .s 23 0) (f := .s 8 0) (i := .s 900 0) (j := .s 901 0) rfl rfl rfl;have hk1:oG [.s 23 0,.s 8 0,.s 900 0,.s 901 0] [.cells ⟨206,1,fun _=>Ht (.s 8 0) p b ts0,0⟩,nS 0 0 (.s 900 0) (.s 901 0),dH [],jO []]:=⟨fun _ _=>rfl,fun _ _=>rfl,fun _ _=>rfl,fun _ _=>rfl,tt⟩
   have hk2:oG (bs 4) [xO p b (onF p b b.steps.toNat (bV p b.fuel).1 [] ts0),fO (onF p b b.steps.toNat (bV p b.fuel).1 [] ts0),dH (onF p b b.steps.toNat (bV p b.fuel).1 [] ts0).runs,jO (onF p b b.steps.toNat (bV p b.fuel).1 [] ts0).ends]:=PY rfl rfl;exact au
  refine sq ?_;obtain ⟨z,hz⟩:∃ z,onF p b b.steps.toNat (bV p b.fuel).1 [] ts0=z:=⟨_,rfl⟩;have hz0:kX p b=z:=by rw [kX,if_pos hf,hz]
  rw [hz];refine WP.ent (st':=aK [(4,.ptr (.s 4 0) 1 0 []),(8,.ptr (.s 8 0) 1 0 []),(9,.ptr (.s 23 0) 1 0 [])] [(.s 4 0,.cells ⟨105,1,fun _=>(T 105).zero,0⟩),(.s 8 0,nS z.runs.length z.ends.length (.s 900 0) (.s 901 0)),(.s 23 0,.cells ⟨206,1,fun _=>Ht (.s 8 0) p b z,0⟩),(.s 900 0,dH z.runs),(.s 901 0,jO z.ends)]) ?_ ?_
  ·refine em [] trivial ⟨cq,cq,cq,tt⟩ ⟨obs rfl,obs rfl (hg:=q0 (ah (rM rfl rfl))),obs rfl (hg:=q0 (ah (VB (i := .b 1) rfl p b z))),obs rfl (hg:=fun q hq=>ah (lg _ _)),obs rfl (hg:=fun q hq=>ah (vY _ _)),tt⟩
  refine dr [] rfl ?_;refine WP.ret ?_;change Fin ..;rw [qK,hz0,hf];refine Ze hT [(.s 900 0,z.runs.length),(.s 901 0,z.ends.length)] ⟨⟨_,rfl,Nat.le_refl _⟩,⟨_,rfl,Nat.le_refl _⟩,tt⟩ rfl rfl rfl rfl ⟨_,rfl,fun i hi=>by match i with | 0=>exact fG rfl rfl rfl (fun h=>by cases h) (by simp [dP,aI]) (fun q hq=>by rw [Nat.zero_add];exact ⟨rfl,AEq.refl _⟩) | 1=>exact fG rfl rfl rfl (fun h=>by cases h) (by rw [Nat.zero_add];exact Nat.le_refl _) (fun q hq=>by rw [Nat.zero_add];exact ⟨rfl,AEq.refl _⟩) | i+2=>exact absurd hi (by simp)⟩ ?_ rfl;cases z.over <;> cases z.short <;> cases z.spun <;> rfl
theorem Zu (p:ay) (b:iq):AC Tryz.prog T bn 16 [aj p,dD b] [] (.tup [cu 32 [O6 (kX p b).runs,.bool (qK p b)],.int (gZ p 0 b)]) []:=by
 refine aA hT Tryz.func16 rfl rfl (Nat.le_of_ble_eq_true rfl) ?_;refine sg rfl ?_;refine sq ?_;refine WP.ent (st':=aK [(2,.rp 26 (aj p)),(3,.rp 28 (dD b)),(4,.ptr (.s 4 0) 1 0 [])] [(.s 4 0,.cells ⟨32,1,fun _=>(T 32).zero,0⟩)]) (em [(.s 2 0,1),(.s 3 0,1)] ⟨sF,sF,tt⟩ ⟨rq,rq,cq,tt⟩ ⟨obs rfl,tt⟩) ?_;refine rgs [CG.pure (.tup [L6 (kX p b).runs (kX p b).ends,.bool (qK p b),.int (gZ p 0 b)])] rfl ?_ ?_
 ·have hq:=IW p b;exact au
 refine sg rfl ?_;exact WP.ret (oU hT rfl rfl rfl (ah (bg fun q=>by match q with | 0 | 1 | q+2=>rfl)) rfl)
theorem VZ (a b:bI):(a==b)=(a.go==b.go&&(a.alt==b.alt&&true)):=by
 obtain ⟨x,y⟩:=a;obtain ⟨z,w⟩:=b;rw [Bool.eq_iff_iff];simp
theorem OT (a b:List bI):AC Tryz.prog T bn 21 [dS a,dS b] [] (.bool (decide (a=b))) []:=by
 refine aA hT Tryz.func21 rfl rfl (Nat.le_of_ble_eq_true rfl) ?_;refine WP.rowlen 0 rfl (fun hla=>?_);refine sg rfl ?_;refine sq (sq (rg [] rfl ?_));refine cd rfl (fun h1=>?_) (fun h1=>?_)
 ·have hne:a.length≠b.length:=by simp at h1;omega
  refine sg rfl ?_;refine WP.ret ?_;change Fin ..;exact fin1 hT (by rfl) (by simp;rintro rfl;exact hne rfl)
 ·have hlen:a.length=b.length:=by simp at h1;omega
  refine sk (sq (sq (rg [] rfl ?_)));refine bk ?_;refine WP.loop (α:=Nat) (fun i=>aK [(0,dS a),(1,dS b),(12,.int a.length),(13,.int i)] []) (fun i=>i≤a.length ∧ ∀ j,j<i→a.getD j dX=b.getD j dX) (fun i=>a.length - i) ?_ ?_
  ·refine ⟨0,?_,?_⟩
   ·exact ⟨Nat.zero_le _,fun j hj=>by omega⟩
   ·refine em [] trivial ⟨cq,cq,cq,cq,tt⟩ trivial
  ·rintro i ⟨hi,heq⟩;refine sg rfl ?_;refine sq ?_;refine cd rfl (fun h4=>?_) (fun h4=>?_)
   ·have hil:i<a.length:=by simpa using h4
    refine sk (sq (bk (sq (rg [] rfl ?_))));refine sq (drs [] rfl ?_ ?_)
    ·exact au
    refine cd rfl (fun h6=>?_) (fun h6=>?_)
    ·have hne:a.getD i dX≠b.getD i dX:=by
      have e:(!(a.getD i dX==b.getD i dX))=true:=(congrArg Bool.not (VZ _ _)).trans h6;simpa using e
     refine sg rfl ?_;refine WP.ret ?_;change Fin ..;exact fin1 hT (by rfl) (by simp;rintro rfl;exact hne rfl)
    ·have he:a.getD i dX=b.getD i dX:=by
      have e:(!(a.getD i dX==b.getD i dX))=false:=(congrArg Bool.not (VZ _ _)).trans h6;simpa using e
     refine sk (rg [] rfl ?_);refine ⟨i+1,?_,?_,?_⟩
     ·refine ⟨hil,fun j hj=>?_⟩;rcases Nat.lt_or_ge j i with h | h
      ·exact heq j h
      ·obtain rfl:j=i:=by omega
       exact he
     ·refine em [] trivial ⟨cq,cq,cq,cq,tt⟩ trivial
     ·(try simp only []);first | omega | grind
   ·have hil:i=a.length:=by simp at h4;omega
    subst hil;refine xt (sq (rg [] rfl ?_));refine WP.ret ?_;change Fin ..;refine fin1 hT (by rfl) ?_;symm;simp only [decide_eq_true_eq];refine List.ext_getElem hlen (fun j h1 h2=>?_);have:=heq j h1
    simpa [h1,h2]using this
structure JR where
 all:List yQ
 whole:Bool
 deriving DecidableEq
def iJ (x:JR):AV:=cu 32 [rowP 45 uQ DW x.all,.bool x.whole]
def BZ (a b:JR):Bool:=decide (a=b)
theorem OQ (x y:JR):AC Tryz.prog T bn 18 [iJ x,iJ y] [] (.bool (BZ x y)) []:=by
 refine aA hT Tryz.func18 rfl rfl (Nat.le_of_ble_eq_true rfl) ?_;refine sg rfl ?_;refine sq (sq ?_);refine WP.ent (st':=aK [(2,.rp 32 (iJ x)),(3,.rp 32 (iJ y))] []) (em [(.s 2 0,1),(.s 3 0,1)] ⟨sF,sF,tt⟩ ⟨rq,rq,tt⟩ trivial) ?_;refine rg [] rfl ?_;refine cd rfl (fun h1=>?_) (fun h1=>?_)
 ·have hne:x≠y:=by
   rintro rfl;simp only [bor]at h1;simp at h1
  refine sg rfl ?_;exact WP.ret (fin1 hT (by rfl) (by simp [BZ,hne]))
 ·have hlen:x.all.length=y.all.length∧x.whole=y.whole:=by
   cases hw:((x.all.length:Int) != y.all.length)with
   | true=>rw [hw]at h1;cases h1
   | false=>rw [hw]at h1;exact ⟨Int.ofNat_inj.1 (bne_eq_false_iff_eq.1 hw),by simpa using h1⟩
  obtain ⟨hlen,hwh⟩:=hlen;refine sk (sq (sq (rg [] rfl ?_)));refine WP.rowlen 23 rfl (fun hla=>?_);refine bk ?_;refine WP.loop (α:=Nat) (fun i=>aK [(2,.rp 32 (iJ x)),(3,.rp 32 (iJ y)),(24,.int x.all.length),(25,.int i)] []) (fun i=>i≤x.all.length ∧ ∀ j,j<i→x.all.getD j DW=y.all.getD j DW) (fun i=>x.all.length - i) ?_ ?_
  ·refine ⟨0,?_,?_⟩
   ·exact ⟨Nat.zero_le _,fun j hj=>by omega⟩
   ·refine em [] trivial ⟨cq,cq,cq,cq,tt⟩ trivial
  ·rintro i ⟨hi,heq⟩;refine sg rfl ?_;refine sq ?_;refine cd rfl (fun h4=>?_) (fun h4=>?_)
   ·have hil:i<x.all.length:=by simpa using h4
    refine sk (sq (bk (sq (rg [] rfl ?_))));refine sg rfl ?_;refine sg rfl ?_;refine sq ?_;refine WP.ent (st':=aK [(2,.rp 32 (iJ x)),(3,.rp 32 (iJ y)),(6,.rp 45 (uQ (x.all.getD i DW))),(7,.rp 45 (uQ (y.all.getD i DW))),(24,.int x.all.length),(25,.int i)] []) ?_ ?_
    ·refine em [(.s 6 0,1),(.s 7 0,1)] ⟨sF,sF,tt⟩ ⟨cq,cq,rq,rq,cq,cq,tt⟩ trivial
    refine rgs [CG.pure (.bool (decide ((x.all.getD i DW).picks=(y.all.getD i DW).picks)))] rfl ?_ ?_
    ·have hq:=OT (x.all.getD i DW).picks (y.all.getD i DW).picks;exact au
    refine cd rfl (fun h8=>?_) (fun h8=>?_)
    ·have hne:x.all.getD i DW≠y.all.getD i DW:=by
      intro e;simp only [bor]at h8;rw [e]at h8;simp at h8
     refine sg rfl ?_;refine WP.ret ?_;change Fin ..;exact fin1 hT (by rfl) (by simp [BZ];rintro rfl;exact hne rfl)
    ·have he:x.all.getD i DW=y.all.getD i DW:=by
      obtain ⟨a,ha⟩:∃ a,x.all.getD i DW=a:=⟨_,rfl⟩;obtain ⟨b,hb⟩:∃ b,y.all.getD i DW=b:=⟨_,rfl⟩;rw [ha,hb]at h8 ⊢;obtain ⟨p1,c1,r1⟩:=a;obtain ⟨p2,c2,r2⟩:=b;simp only [bor]at h8;simp at h8;simp [h8]
     refine sk (rg [] rfl ?_);refine ⟨i+1,?_,?_,?_⟩
     ·refine ⟨hil,fun j hj=>?_⟩;rcases Nat.lt_or_ge j i with h | h
      ·exact heq j h
      ·obtain rfl:j=i:=by omega
       exact he
     ·refine em [] trivial ⟨cq,cq,cq,cq,tt⟩ trivial
     ·(try simp only []);first | omega | grind
   ·have hil:i=x.all.length:=by simp at h4;omega
    subst hil;refine xt (sq (rg [] rfl ?_));refine WP.ret ?_;change Fin ..;refine fin1 hT (by rfl) ?_;symm;simp only [BZ,decide_eq_true_eq];obtain ⟨xa,xw⟩:=x;obtain ⟨ya,yw⟩:=y;simp only at hlen hwh heq;simp only [JR.mk.injEq];refine ⟨List.ext_getElem hlen (fun j h1 h2=>?_),hwh⟩;have:=heq j h1
    simpa [h1,h2]using this
structure Rd (b:iq) (t:TS) (L:List (yQ×PSt)) (sp:Bool) (r:TS):Prop where
 runs:r.runs=(t.runs++L.map (·.1)).take b.runs.toNat
 ends:r.ends=(t.ends++L.map (·.2)).take b.runs.toNat
 over:r.over=decide (b.runs.toNat<t.runs.length+L.length)
 spun:r.over=false→r.spun=(t.spun||sp)
 short:r.over=false→r.short=(t.short||L.any fun x=>x.1.cut)
structure aan (b:iq) (t:TS):Prop where
 len:t.runs.length≤b.runs.toNat
 even:t.ends.length=t.runs.length
theorem Rd.ok {b:iq} {t:TS} {L:List (yQ×PSt)} {sp:Bool} {r:TS} (ht:aan b t) (h:Rd b t L sp r):aan b r :=
 ⟨by rw [h.runs,List.length_take];omega,by rw [h.runs,h.ends,List.length_take,List.length_take];simp [ht.even]⟩
def Vr:iL:=⟨0,0,[⟨64,0,0,0,0⟩,⟨45,0,0,0,0⟩],[]⟩
def qM:ay:=⟨[],0,[],[Vr]⟩
def allT (p:ay) (b:iq):JR:=⟨(kX p b).runs,qK p b⟩
def one1:JR:=⟨[⟨[⟨0,0⟩],false,false⟩],true⟩
def Zy:JR:=⟨[⟨[],true,false⟩],false⟩
set_option maxRecDepth 100000 in
theorem Vs:allT qM ⟨1,1,1⟩=one1∧gZ qM 0 ⟨1,1,1⟩=0:=by decide+kernel
set_option maxRecDepth 100000 in
theorem Vt:allT qM ⟨0,1,1⟩=Zy∧gZ qM 0 ⟨0,1,1⟩=0:=by decide+kernel
theorem JQ (p:ay) (b:iq) {x:AV} (hx:x=dD b):AC Tryz.prog T bn 16 [aj p,x] [] (.tup [iJ (allT p b),.int (gZ p 0 b)]) []:=by
 subst hx;exact Zu p b
theorem Zr {x:AV} (hx:x=dD ⟨1,1,1⟩):AC Tryz.prog T bn 16 [aj qM,x] [] (.tup [iJ one1,.int 0]) []:=by
 have h:=JQ qM ⟨1,1,1⟩ hx;rw [Vs.1,Vs.2]at h;exact h
theorem Zt {x:AV} (hx:x=dD ⟨0,1,1⟩):AC Tryz.prog T bn 16 [aj qM,x] [] (.tup [iJ Zy,.int 0]) []:=by
 have h:=JQ qM ⟨0,1,1⟩ hx;rw [Vt.1,Vt.2]at h;exact h
abbrev sp0:AV:=cu 26 [.v (.slice none 0 0),.int 0,.v (.slice none 0 0),.own (.s 10 0) 1 0 1 none]
theorem SG:AC Tryz.prog T bn 20 [] [] (.bool true) []:=by
 refine aA hT Tryz.func20 rfl rfl (Nat.le_of_ble_eq_true rfl) ?_;refine sg rfl ?_;refine sq (rg [CG.mine,CG.mine] rfl ?_);refine sq ?_;refine WP.ent (st':=aK [(1,.ptr (.s 1 0) 1 0 [])] [(.s 1 0,.cells ⟨26,1,fun _=>sp0,0⟩),(.s 10 0,bK 100 dI mD [Vr])]) (em [(.s 8 0,2)] ⟨⟨_,rfl,Nat.le_refl _⟩,tt⟩ ⟨cq,tt⟩ ⟨obs rfl (hg:=q0 (ah (bg fun q=>by match q with | 0 | 1 | 2 | 3 | q+4=>rfl))),obs rfl (hg:=q0 ?_),tt⟩) ?_
 ·refine ⟨_,rfl,fun i hi=>?_⟩
  match i,hi with
  | 0,_=>exact ah rfl
  | 1,_=>exact ah rfl
  | 2,_=>exact fG rfl rfl rfl (fun h=>by cases h) (Nat.le_refl _) (fun j hj=>by match j,hj with | 0,_=>exact ⟨rfl,AEq.of_eq (bg fun q=>by match q with | 0 | 1 | 2 | 3 | 4 | q+5=>rfl)⟩ | 1,_=>exact ⟨rfl,AEq.of_eq (bg fun q=>by match q with | 0 | 1 | 2 | 3 | 4 | q+5=>rfl)⟩)
  | 3,_=>exact dJ (by decide)
 refine WP.ent (st':=aK [(1,.ptr (.s 1 0) 1 0 [])] [(.s 1 0,.cells ⟨26,1,fun _=>aj qM,0⟩)]) (em [(.s 10 0,1)] ⟨⟨_,rfl,Nat.le_refl _⟩,tt⟩ ⟨cq,tt⟩ ⟨obs rfl (hg:=q0 ?_),tt⟩) ?_
 ·refine ⟨_,rfl,fun i hi=>?_⟩
  match i,hi with
  | 0,_=>exact dJ (by decide)
  | 1,_=>exact ah rfl
  | 2,_=>exact dJ (by decide)
  | 3,_=>exact fG rfl rfl rfl (fun h=>by cases h) (Nat.le_refl _) (fun j hj=>by match j,hj with | 0,_=>exact ⟨rfl,AEq.refl _⟩)
 refine WP.ent (st':=aK [(1,.rp 26 (aj qM))] []) (em [(.s 1 0,1)] ⟨sF,tt⟩ ⟨rq,tt⟩ trivial) ?_;refine rgs [CG.pure (.tup [iJ one1,.int 0])] rfl ?_ ?_
 ·simp only [ak,under,CG.pure];refine ⟨Zr ?_,trivial,Nat.le_refl _⟩;exact bg fun q=>by match q with | 0 | 1 | 2 | q+3=>rfl
 refine sq ?_;refine WP.ent (st':=aK [(1,.rp 26 (aj qM)),(2,.rp 32 (iJ one1)),(3,.int 0)] []) ?_ ?_
 ·refine em [(.s 2 0,1)] ⟨sF,tt⟩ ⟨cq,rq,cq,tt⟩ trivial
 refine rgs [CG.pure (.tup [iJ Zy,.int 0])] rfl ?_ ?_
 ·simp only [ak,under,CG.pure];refine ⟨Zt ?_,trivial,Nat.le_refl _⟩;exact bg fun q=>by match q with | 0 | 1 | 2 | q+3=>rfl
 refine sq ?_;refine WP.ent (st':=aK [(1,.rp 26 (aj qM)),(2,.rp 32 (iJ one1)),(3,.int 0),(4,.rp 32 (iJ Zy)),(5,.int 0)] []) ?_ ?_
 ·refine em [(.s 4 0,1)] ⟨sF,tt⟩ ⟨cq,cq,cq,rq,cq,tt⟩ trivial
 refine rg [] rfl ?_;exact WP.ret (fin1 hT (by rfl) rfl)
theorem PI (b:iq) (x:Int):(dD b).put [2] (.int x)=dD { b with runs:=x}:=bG (Nat.le_of_ble_eq_true rfl)
def eX (f:Nat→Bool):Nat→Nat
 | 0=>0
 | k+1=>eX f k+(if f k then 2 ^ k else 0)
theorem EN (f:Nat→Bool):∀ k,eX f k<2 ^ k
 | 0=>Nat.one_pos
 | k+1=>by have:=EN f k;rw [eX,Nat.pow_succ];split <;> omega
theorem Ib (f:Nat→Bool):∀ k j,(eX f k).testBit j=(decide (j<k)&&f j)
 | 0,j=>by simp [eX]
 | k+1,j=>by
  have hlt:=EN f k;have ih:=Ib f k j
  rw [eX];rcases Nat.lt_trichotomy j k with h | h | h
  ·rw [show decide (j<k+1)=true from decide_eq_true (by omega)];rw [show decide (j<k)=true from decide_eq_true h]at ih;split
   ·rw [Nat.add_comm,Nat.testBit_two_pow_add_gt h,ih]
   ·exact ih
  ·subst h;rw [show decide (j<j+1)=true from decide_eq_true (by omega)];rw [show decide (j<j)=false from decide_eq_false (by omega)]at ih;split
   ·rename_i hf;rw [Nat.add_comm,Nat.testBit_two_pow_add_eq,ih,hf];rfl
   ·rename_i hf;rw [Nat.add_zero,ih];simpa using hf
  ·rw [show decide (j<k+1)=false from decide_eq_false (by omega),Bool.false_and];refine Nat.testBit_lt_two_pow ?_;have:2 ^ (k+1)≤2 ^ j:=Nat.pow_le_pow_right (by decide) (by omega)
   rw [Nat.pow_succ]at this;split <;> omega
theorem EM {n:Nat} {f:Nat→Bool} (hn:n<2 ^ 64) (h:∀ j,j<64→n.testBit j=f j):eX f 64=n:=by
 refine Nat.eq_of_testBit_eq fun j=>?_;rw [Ib];by_cases hj:j<64
 ·rw [h j hj,decide_eq_true hj,Bool.true_and]
 ·rw [decide_eq_false hj,Bool.false_and,Nat.testBit_lt_two_pow];exact Nat.lt_of_lt_of_le hn (Nat.pow_le_pow_right (by decide) (by omega))
def uN (a:Int):Nat:=(wU a).toNat
abbrev inW (a:Int):Prop := -9223372036854775808≤a∧a≤9223372036854775807
theorem Dz (a:Int):wU a=uN a:=(Int.toNat_of_nonneg (um a).1).symm
theorem uo (a:Int):uN a<2 ^ 64:=by have:=um a;unfold uN;omega
theorem nK (a:Int):(uN a:Int)=a % 18446744073709551616:=by rw [← Dz,wU,IntKind.wrap_u64]
theorem Wx {a:Int} (h:inW a):wI (uN a)=a:=by rw [wI,IntKind.wrap_i64,nK];omega
theorem qh (a:Int):inW (wI a):=by rw [wI,IntKind.wrap_i64];constructor <;> omega
theorem xU (n:Nat):uN (n:Int)=n % 2 ^ 64:=by have:=nK n;omega
theorem DC (a:Int):uN (wI a)=uN a:=by have h1:=nK (wI a);have h2:=nK a;rw [wI,IntKind.wrap_i64]at h1;rw [wI,IntKind.wrap_i64];omega
theorem Fh {n:Nat} (h:n<2 ^ 64):uN (wI n)=n:=by rw [DC,xU,Nat.mod_eq_of_lt h]
theorem XJ {a b:Int} (ha:inW a) (hb:inW b) (h:uN a=uN b):a=b:=by rw [← Wx ha,← Wx hb,h]
abbrev ig (a:Int) (k:Nat):Bool:=(uN a).testBit k
theorem sV {a:Int} {f:Nat→Bool} (ha:inW a) (h:∀ j,j<64→ig a j=f j):wI (eX f 64)=a:=by rw [EM (uo a) h,Wx ha]
theorem MN {a:Int} (ha:inW a):∃ n:Nat,n<2 ^ 63∧((a=n ∧ ∀ j,ig a j=n.testBit j)∨(a = -(n+1:Int) ∧ ∀ j,ig a j=(decide (j<64) && !n.testBit j))):=by
 obtain ⟨h1,h2⟩:=ha;rcases Int.lt_or_le a 0 with h | h
 ·refine ⟨(-a - 1).toNat,by omega,.inr ⟨by omega,fun j=>?_⟩⟩;have e:uN a=2 ^ 64 - ((-a - 1).toNat+1):=by have:=nK a;omega
  show (uN a).testBit j=_;rw [e,Nat.testBit_two_pow_sub_succ (by omega)]
 ·refine ⟨a.toNat,by omega,.inl ⟨by omega,fun j=>?_⟩⟩;have e:uN a=a.toNat:=by have:=nK a;omega
  show (uN a).testBit j=_;rw [e]
theorem iU (a:Int):(BitVec.ofInt 64 a).toNat=uN a:=by rw [BitVec.toNat_ofInt];have:=nK a;omega
theorem MG (x:Nat) {y:Nat} (h:y<2 ^ 64):x &&& y<2 ^ 64:=Nat.and_lt_two_pow x h
theorem Ec {x y:Nat} (hx:x<2 ^ 64) (h:y<2 ^ 64):x ||| y<2 ^ 64:=Nat.or_lt_two_pow hx h
theorem xR {n:Nat} (h:n<2 ^ 64):IntKind.u64.wrap (n:Int)=n:=by rw [IntKind.wrap_u64];omega
theorem Zp (a b:Int):bA .i64 a b=wI ((uN a &&& uN b:Nat):Int):=by
 unfold bA;rw [BitVec.toNat_and];show wI (((BitVec.ofInt 64 a).toNat &&& (BitVec.ofInt 64 b).toNat:Nat):Int)=_;rw [iU,iU]
theorem aak (a b:Int):bO .i64 a b=wI ((uN a ||| uN b:Nat):Int):=by
 unfold bO;rw [BitVec.toNat_or];show wI (((BitVec.ofInt 64 a).toNat ||| (BitVec.ofInt 64 b).toNat:Nat):Int)=_;rw [iU,iU]
theorem ZB (a b:Int):bX .i64 a b=wI ((uN a ^^^ uN b:Nat):Int):=by
 unfold bX;rw [BitVec.toNat_xor];show wI (((BitVec.ofInt 64 a).toNat ^^^ (BitVec.ofInt 64 b).toNat:Nat):Int)=_;rw [iU,iU]
theorem aal (a b:Int):bN .i64 a b=wI ((uN a &&& (2 ^ 64 - (uN b+1)):Nat):Int):=by
 unfold bN;rw [BitVec.toNat_and,BitVec.toNat_not];show wI (((BitVec.ofInt 64 a).toNat &&& (2 ^ 64 - 1 - (BitVec.ofInt 64 b).toNat):Nat):Int)=_;rw [iU,iU,Nat.sub_sub,Nat.add_comm 1]
theorem Wn {x y:Nat} (hx:x<2 ^ 64) (hy:y<2 ^ 64):bA .u64 (x:Int) (y:Int)=((x &&& y:Nat):Int):=by
 unfold bA;rw [BitVec.toNat_and];show wU (((BitVec.ofInt 64 (x:Int)).toNat &&& (BitVec.ofInt 64 (y:Int)).toNat:Nat):Int)=_
 rw [iU,iU,xU,xU,Nat.mod_eq_of_lt hx,Nat.mod_eq_of_lt hy];exact xR (MG _ hy)
theorem Zo {x y:Nat} (hx:x<2 ^ 64) (hy:y<2 ^ 64):bO .u64 (x:Int) (y:Int)=((x ||| y:Nat):Int):=by
 unfold bO;rw [BitVec.toNat_or];show wU (((BitVec.ofInt 64 (x:Int)).toNat ||| (BitVec.ofInt 64 (y:Int)).toNat:Nat):Int)=_
 rw [iU,iU,xU,xU,Nat.mod_eq_of_lt hx,Nat.mod_eq_of_lt hy];exact xR (Ec hx hy)
theorem IntKindX.wrap_i8 (n:Int):IntKind.i8.wrap n=(n+128) % 256 - 128:=by simp [IntKind.wrap,IntKind.bits,IntKind.signed];omega
theorem IntKindX.wrap_i16 (n:Int):IntKind.i16.wrap n=(n+32768) % 65536 - 32768:=by simp [IntKind.wrap,IntKind.bits,IntKind.signed];omega
theorem IntKindX.wrap_i32 (n:Int):IntKind.i32.wrap n=(n+2147483648) % 4294967296 - 2147483648:=by simp [IntKind.wrap,IntKind.bits,IntKind.signed];omega
theorem IntKindX.wrap_u8 (n:Int):IntKind.u8.wrap n=n % 256:=by simp [IntKind.wrap,IntKind.bits,IntKind.signed]
theorem IntKindX.wrap_u16 (n:Int):IntKind.u16.wrap n=n % 65536:=by simp [IntKind.wrap,IntKind.bits,IntKind.signed]
theorem IntKindX.wrap_u32 (n:Int):IntKind.u32.wrap n=n % 4294967296:=by simp [IntKind.wrap,IntKind.bits,IntKind.signed]
theorem wG (n k:Nat):(n:Int).fdiv (2 ^ k)=((n / 2 ^ k:Nat):Int):=by
 rw [Int.fdiv_eq_ediv_of_nonneg _ (by exact Int.le_of_lt (Int.pow_pos (by decide)))];simp
def uJ (a k:Int):Int:=wI (bA .u64 ((wU a).fdiv (2 ^ (min (wU k).toNat 64))) 1)
def Py (a k v:Int):Int:=wI (bO .u64 (wU a) (wU (wU v*2 ^ (min (wU k).toNat 64))))
theorem Y6 {k:Nat} (h:k<64):min (wU (k:Int)).toNat 64=k:=by rw [Dz,xU];simp;omega
theorem jL (a:Int) {k:Nat} (h:k<64):uJ a k=mZ (ig a k):=by
 have hu:=uo a;rw [uJ,Y6 h,Dz,wG,show (1:Int)=((1:Nat):Int)from rfl,Wn (Nat.lt_of_le_of_lt (Nat.div_le_self _ _) hu) (by decide),Nat.and_one_is_mod];show wI _=_
 unfold mZ ig;rw [Nat.testBit_eq_decide_div_mod_eq];rcases Nat.mod_two_eq_zero_or_one (uN a / 2 ^ k)with e | e <;> rw [e] <;> rfl
theorem zx (f:Nat→Bool) {k:Nat} (h:k<64):Py (wI (eX f k)) k (mZ (f k))=wI (eX f (k+1)):=by
 have hb:=EN f k;have h64:eX f k<2 ^ 64:=Nat.lt_of_lt_of_le hb (Nat.pow_le_pow_right (by decide) (by omega))
 have hp:2 ^ k<2 ^ 64:=Nat.pow_lt_pow_right (by decide) h;rw [Py,Y6 h,Dz (wI _),Fh h64,eX];cases f k with
 | true =>
  have e:wU (wU (mZ true)*2 ^ k)=((2 ^ k:Nat):Int):=by
   rw [show wU (mZ true)=1 from rfl,Int.one_mul,show ((2:Int) ^ k)=((2 ^ k:Nat):Int) by simp];exact xR hp
  rw [e,Zo h64 hp,Nat.or_comm];congr 2;have:=Nat.two_pow_add_eq_or_of_lt hb 1
  rw [Nat.mul_one]at this;rw [← this,if_pos rfl,Nat.add_comm]
 | false =>
  have e:wU (wU (mZ false)*2 ^ k)=((0:Nat):Int):=by rw [show wU (mZ false)=0 from rfl,Int.zero_mul];rfl
  rw [e,Zo h64 (by decide),Nat.or_zero];rfl
def Lr (op:Int) (x y:Bool):Bool:=if op=21 then x&&y else if op=22 then x||y else if op=23 then x != y else if op=24 then x && !y else false
theorem Xy {op a b:Int} (h:21≤op∧op≤24):wI (eX (fun k=>Lr op (ig a k) (ig b k)) 64)=qL op a b:=by
 have h1:=uo a;have h2:=uo b
 have key:∀ n:Nat,n<2 ^ 64→(∀ j,j<64→n.testBit j=Lr op (ig a j) (ig b j))→wI (eX (fun k=>Lr op (ig a k) (ig b k)) 64)=wI n:=fun n hn hh=>by rw [EM hn hh]
 have e:op=21∨op=22∨op=23∨op=24:=by omega
 rcases e with rfl | rfl | rfl | rfl
 ·rw [show qL 21 a b=bA .i64 a b from rfl,Zp];exact key _ (MG _ h2) fun j _=>Nat.testBit_and ..
 ·rw [show qL 22 a b=bO .i64 a b from rfl,aak];exact key _ (Ec h1 h2) fun j _=>Nat.testBit_or ..
 ·rw [show qL 23 a b=bX .i64 a b from rfl,ZB];exact key _ (Nat.xor_lt_two_pow h1 h2) fun j _=>Nat.testBit_xor ..
 ·rw [show qL 24 a b=bN .i64 a b from rfl,aal];refine key _ (Nat.lt_of_le_of_lt Nat.and_le_left h1) fun j hj=>?_;rw [Nat.testBit_and,Nat.testBit_two_pow_sub_succ h2,decide_eq_true hj];rfl
def BJ (a:Int) (by_:Int) (z:Bool) (k:Nat):Bool:=if 0≤(k:Int) - by_∧(k:Int) - by_<64 then ig a ((k:Int) - by_).toNat else z
def Zf (b:Int):Int:=if b>64 then 64 else b
theorem ZX {b:Int} (hb:inW b) (h:0≤b):∃ n:Nat,n≤64∧Zf b=n∧min (wU b).toNat 64=n∧min b.toNat 64=n:=by
 refine ⟨min b.toNat 64,by omega,by unfold Zf;split <;> omega,?_,rfl⟩;have:wU b=b:=by rw [wU,IntKind.wrap_u64];omega
 rw [this]
theorem WH {a:Int} {n:Nat}:wI (eX (BJ a n false) 64)=wI (a*2 ^ n):=by
 have e:uN (a*2 ^ n)=uN a*2 ^ n % 2 ^ 64:=by
  have h1:((uN (a*2 ^ n):Nat):Int)=((uN a*2 ^ n % 2 ^ 64:Nat):Int):=by
   rw [nK,Int.natCast_emod,Int.natCast_mul,nK,Int.natCast_pow];show a*2 ^ n % 18446744073709551616=a % 18446744073709551616*2 ^ n % 18446744073709551616
   rw [Int.mul_emod,Int.mul_emod (a % 18446744073709551616) (2 ^ n),Int.emod_emod]
  omega
 refine sV (qh _) fun j hj=>?_;show (uN (wI _)).testBit j=_
 rw [DC,e,Nat.testBit_mod_two_pow,Nat.testBit_mul_two_pow,decide_eq_true hj,Bool.true_and,BJ];by_cases hn:n≤j
 ·rw [if_pos (by omega),decide_eq_true hn,Bool.true_and,show ((j:Int) - n).toNat=j - n by omega]
 ·rw [if_neg (by omega),decide_eq_false hn];rfl
theorem Si {a:Int} {n:Nat}:wI (eX (BJ a (-(n:Int)) false) 64)=wI ((wU a).fdiv (2 ^ n)):=by
 have hu:=uo a;rw [Dz,wG];refine sV (qh _) fun j hj=>?_;show (uN (wI _)).testBit j=_
 rw [Fh (Nat.lt_of_le_of_lt (Nat.div_le_self _ _) hu),Nat.testBit_div_two_pow,BJ];by_cases hn:j+n<64
 ·rw [if_pos (by omega),show ((j:Int) - -(n:Int)).toNat=j+n by omega]
 ·rw [if_neg (by omega)];exact Nat.testBit_lt_two_pow (Nat.lt_of_lt_of_le hu (Nat.pow_le_pow_right (by decide) (by omega)))
theorem EO {m j:Nat} (hm:m<2 ^ 63) (hj:63≤j):m.testBit j=false:=Nat.testBit_lt_two_pow (Nat.lt_of_lt_of_le hm (Nat.pow_le_pow_right (by decide) hj))
theorem Xu {m:Nat} (hm:m<2 ^ 63) (j:Nat):ig (-(m+1:Int)) j=(decide (j<64) && !m.testBit j):=by
 have e:uN (-(m+1:Int))=2 ^ 64 - (m+1):=by have:=nK (-(m+1:Int));omega
 show (uN _).testBit j=_;rw [e,Nat.testBit_two_pow_sub_succ (by omega)]
theorem OD {a:Int} {n:Nat} (ha:inW a):wI (eX (BJ a (-(n:Int)) (ig a 63)) 64)=a.fdiv (2 ^ n):=by
 obtain ⟨m,hm,⟨rfl,hb⟩ | ⟨rfl,hb⟩⟩:=MN ha
 ·have hd:=Nat.div_le_self m (2 ^ n);rw [wG];obtain ⟨q,hq⟩:∃ q,m / 2 ^ n=q:=⟨_,rfl⟩;rw [hq]at hd ⊢;refine sV (by constructor <;> omega) fun j hj=>?_;have e:uN (q:Int)=q:=by rw [xU];exact Nat.mod_eq_of_lt (by omega)
  show (uN _).testBit j=_;rw [e,← hq,Nat.testBit_div_two_pow,BJ,hb 63,EO hm (Nat.le_refl _)];by_cases hn:j+n<64
  ·rw [if_pos (by omega),hb,show ((j:Int) - -(n:Int)).toNat=j+n by omega]
  ·rw [if_neg (by omega)];exact EO hm (by omega)
 ·have hd:=Nat.div_le_self m (2 ^ n);have e:(-(m+1:Int)).fdiv (2 ^ n) = -(((m / 2 ^ n:Nat):Int)+1):=by
   rw [Int.fdiv_eq_ediv_of_nonneg _ (Int.le_of_lt (Int.pow_pos (by decide)))];have hp:(0:Int)<2 ^ n:=Int.pow_pos (by decide)
   show Int.negSucc m / 2 ^ n=_;rw [Int.negSucc_ediv m hp,Int.natCast_ediv,Int.natCast_pow];rfl
  rw [e];obtain ⟨q,hq⟩:∃ q,m / 2 ^ n=q:=⟨_,rfl⟩;rw [hq]at hd ⊢;refine sV (by constructor <;> omega) fun j hj=>?_;rw [Xu (by omega),← hq,Nat.testBit_div_two_pow,BJ,hb 63,decide_eq_true hj,EO hm (Nat.le_refl _)];by_cases hn:j+n<64
  ·rw [if_pos (by omega),hb,show ((j:Int) - -(n:Int)).toNat=j+n by omega,decide_eq_true hn]
  ·rw [if_neg (by omega),EO hm (by omega)];rfl
theorem ZU (b:Int):bA .i64 b 63=((b % 64).toNat:Nat):=by
 have h1:=nK b;rw [Zp,show uN 63=2 ^ 6 - 1 from rfl,Nat.and_two_pow_sub_one_eq_mod,wI,IntKind.wrap_i64];omega
theorem WQ {a b:Int}:wI (eX (fun k=>ig a ((k+64 - (b % 64).toNat) % 64)) 64)=qL 28 a b:=by
 have hu:=uo a;obtain ⟨s,hs⟩:∃ s,(b % 64).toNat=s:=⟨_,rfl⟩;have hs64:s<64:=by omega
 rw [show qL 28 a b=wI (WR (wU a) (bA .i64 b 63))from rfl,ZU,hs];have e1:bA .u64 (wU ((s:Nat):Int)) 63=((s:Nat):Int):=by
  rw [Dz,xU,show (63:Int)=((63:Nat):Int)from rfl,Wn (by omega) (by decide),show 63=2 ^ 6 - 1 from rfl,Nat.and_two_pow_sub_one_eq_mod];omega
 have e2:wU (64 - ((s:Nat):Int))=((64 - s:Nat):Int):=by rw [wU,IntKind.wrap_u64];omega
 have e3:wU ((uN a:Int)*2 ^ s)=((uN a*2 ^ s % 2 ^ 64:Nat):Int):=by rw [wU,IntKind.wrap_u64];simp
 rw [WR,e1,e2,Int.toNat_natCast,Int.toNat_natCast,Nat.min_eq_left (by omega:s≤64),Nat.min_eq_left (by omega:64 - s≤64),Dz a,wG,e3,Zo (by omega) (Nat.lt_of_le_of_lt (Nat.div_le_self _ _) hu)];refine sV (qh _) fun j hj=>?_;show (uN (wI _)).testBit j=_
 rw [Fh (Ec (by omega) (Nat.lt_of_le_of_lt (Nat.div_le_self _ _) hu)),Nat.testBit_or,Nat.testBit_mod_two_pow,Nat.testBit_mul_two_pow,Nat.testBit_div_two_pow,decide_eq_true hj,Bool.true_and];by_cases h:s≤j
 ·rw [decide_eq_true h,Bool.true_and,Nat.testBit_lt_two_pow (i:=j+(64 - s)) (Nat.lt_of_lt_of_le hu (Nat.pow_le_pow_right (by decide) (by omega))),Bool.or_false,show (j+64 - s) % 64=j - s by omega]
 ·rw [decide_eq_false h,Bool.false_and,Bool.false_or,show (j+64 - s) % 64=j+(64 - s) by omega]
def lH (a:Int) (n:Nat) (sign:Bool) (k:Nat):Bool:=if k<n then ig a k else sign&&ig a (n - 1)
theorem uf {a x:Int} {n:Nat} (hn:n≤32) {sign:Bool} (hw:inW x) (hx:uN x=if (sign&&ig a (n - 1))=true then 2 ^ n*(2 ^ (64 - n) - 1)+uN a % 2 ^ n else uN a % 2 ^ n):wI (eX (lH a n sign) 64)=x:=by
 refine sV hw fun j hj=>?_;have hm:uN a % 2 ^ n<2 ^ n:=Nat.mod_lt _ (Nat.two_pow_pos n)
 show (uN x).testBit j=_;rw [hx,lH];split
 ·rename_i h;rw [Nat.testBit_two_pow_mul_add _ hm,Nat.testBit_mod_two_pow,Nat.testBit_two_pow_sub_one,h];by_cases hj2:j<n
  ·rw [if_pos hj2,if_pos hj2,decide_eq_true hj2,Bool.true_and]
  ·rw [if_neg hj2,if_neg hj2];exact decide_eq_true (by omega)
 ·rename_i h;rw [Nat.testBit_mod_two_pow];by_cases hj2:j<n
  ·rw [if_pos hj2,decide_eq_true hj2,Bool.true_and]
  ·rw [if_neg hj2,decide_eq_false hj2,Bool.false_and,Bool.eq_false_iff.2 h]
theorem tZ (a:Int):wI (eX (lH a 8 true) 64)=pK 10 a∧wI (eX (lH a 16 true) 64)=pK 11 a∧wI (eX (lH a 32 true) 64)=pK 12 a∧wI (eX (lH a 8 false) 64)=pK 13 a∧wI (eX (lH a 16 false) 64)=pK 14 a∧wI (eX (lH a 32 false) 64)=pK 15 a:=by
 have h:=nK a;refine ⟨?_,?_,?_,?_,?_,?_⟩
 ·refine (uf (x:=wI (IntKind.i8.wrap a)) (by decide) (qh _) ?_).trans rfl;rw [DC];have h2:=nK (IntKind.i8.wrap a)
  rw [IntKindX.wrap_i8]at h2 ⊢;rw [Bool.true_and,ig,Nat.testBit_eq_decide_div_mod_eq];simp only [decide_eq_true_eq];split <;> omega
 ·refine (uf (x:=wI (IntKind.i16.wrap a)) (by decide) (qh _) ?_).trans rfl;rw [DC];have h2:=nK (IntKind.i16.wrap a)
  rw [IntKindX.wrap_i16]at h2 ⊢;rw [Bool.true_and,ig,Nat.testBit_eq_decide_div_mod_eq];simp only [decide_eq_true_eq];split <;> omega
 ·refine (uf (x:=wI (IntKind.i32.wrap a)) (by decide) (qh _) ?_).trans rfl;rw [DC];have h2:=nK (IntKind.i32.wrap a)
  rw [IntKindX.wrap_i32]at h2 ⊢;rw [Bool.true_and,ig,Nat.testBit_eq_decide_div_mod_eq];simp only [decide_eq_true_eq];split <;> omega
 ·refine (uf (x:=wI (IntKind.u8.wrap a)) (by decide) (qh _) ?_).trans rfl;rw [DC];have h2:=nK (IntKind.u8.wrap a)
  rw [IntKindX.wrap_u8]at h2 ⊢;rw [Bool.false_and];simp only [Bool.false_eq_true,if_false];omega
 ·refine (uf (x:=wI (IntKind.u16.wrap a)) (by decide) (qh _) ?_).trans rfl;rw [DC];have h2:=nK (IntKind.u16.wrap a)
  rw [IntKindX.wrap_u16]at h2 ⊢;rw [Bool.false_and];simp only [Bool.false_eq_true,if_false];omega
 ·refine (uf (x:=wI (IntKind.u32.wrap a)) (by decide) (qh _) ?_).trans rfl;rw [DC];have h2:=nK (IntKind.u32.wrap a)
  rw [IntKindX.wrap_u32]at h2 ⊢;rw [Bool.false_and];simp only [Bool.false_eq_true,if_false];omega
theorem Ro (a:Int) {k:Nat} (h:k<64):bA .u64 ((wU a).fdiv (2 ^ min k 64)) 1=(if ig a k then 1 else 0:Nat):=by
 rw [Nat.min_eq_left (by omega),Dz,wG,show (1:Int)=((1:Nat):Int)from rfl,Wn (Nat.lt_of_le_of_lt (Nat.div_le_self _ _) (uo a)) (by decide),Nat.and_one_is_mod,ig,Nat.testBit_eq_decide_div_mod_eq];rcases Nat.mod_two_eq_zero_or_one (uN a / 2 ^ k)with e | e <;> rw [e] <;> rfl
theorem QD (a:Int):∀ k,k≤64 → ∃ n:Nat,AL a k=n∧n<2 ^ 64 ∧ ∀ j,j<64→n.testBit j=(decide (63 - j<k)&&ig a (63 - j))
 | 0,_=>⟨0,rfl,by decide,fun j hj=>by simp⟩
 | k+1,hk=>by
  obtain ⟨n,h1,h2,h3⟩:=QD a k (by omega);have hp:2 ^ (63 - k)<2 ^ 64:=Nat.pow_lt_pow_right (by decide) (by omega)
  have hm:min (63 - k) 64=63 - k:=by omega
  cases hb:ig a k with
  | true =>
   refine ⟨n ||| 2 ^ (63 - k),?_,Ec h2 hp,fun j hj=>?_⟩
   ·rw [AL,Ro a (by omega),hb,h1,if_pos rfl,hm,show ((1:Nat):Int)*2 ^ (63 - k)=((2 ^ (63 - k):Nat):Int) by simp,show wU ((2 ^ (63 - k):Nat):Int)=_ from xR hp,Zo h2 hp]
   ·rw [Nat.testBit_or,h3 j hj,Nat.testBit_two_pow];by_cases e:63 - k=j
    ·rw [show 63 - j=k by omega,hb];simp [e]
    ·rw [decide_eq_false e,Bool.or_false];by_cases e2:63 - j<k
     ·rw [decide_eq_true e2,decide_eq_true (by omega:63 - j<k+1)]
     ·rw [decide_eq_false e2,decide_eq_false (by omega:¬ 63 - j<k+1)]
  | false =>
   refine ⟨n,?_,h2,fun j hj=>?_⟩
   ·rw [AL,Ro a (by omega),hb,h1];rw [show wU (((if false=true then 1 else 0:Nat):Int)*2 ^ (min (63 - k) 64))=((0:Nat):Int) by simp;rfl,Zo h2 (by decide),Nat.or_zero]
   ·rw [h3 j hj];by_cases e:63 - j=k
    ·rw [e,hb,Bool.and_false,Bool.and_false]
    ·by_cases e2:63 - j<k
     ·rw [decide_eq_true e2,decide_eq_true (by omega:63 - j<k+1)]
     ·rw [decide_eq_false e2,decide_eq_false (by omega:¬ 63 - j<k+1)]
theorem UE (a:Int):wI (eX (fun k=>ig a (63 - k)) 64)=QE a:=by
 obtain ⟨n,h1,h2,h3⟩:=QD a 64 (Nat.le_refl _);rw [QE,h1,EM h2 fun j hj=>?_];rw [h3 j hj,decide_eq_true (by omega),Bool.true_and]
def N7 (a:Int):Nat→Nat
 | 0=>0
 | k+1=>if ig a k then 0 else N7 a k+1
theorem Ik {a:Int} {L:Nat} (h1:uN a<2 ^ L) (h2:L=0∨2 ^ (L - 1)≤uN a):∀ k,L≤k→N7 a k=k - L
 | 0,h=>by simp [N7]
 | k+1,h=>by
  rcases Nat.lt_or_ge k L with hk | hk
  ·obtain rfl:L=k+1:=by omega
   have hb:ig a k=true:=by
    refine Nat.testBit_of_two_pow_le_and_two_pow_add_one_gt ?_ h1;rcases h2 with h2 | h2
    ·omega
    ·simpa using h2
   rw [N7,if_pos hb];omega
  ·have hb:ig a k=false:=Nat.testBit_lt_two_pow (Nat.lt_of_lt_of_le h1 (Nat.pow_le_pow_right (by decide) hk));rw [N7,if_neg (by rw [hb];decide),Ik h1 h2 k hk];omega
theorem Uj (a:Int):((N7 a 64:Nat):Int)=pK 5 a:=by
 rw [show pK 5 a=64 - (Go.Lib.bitLen (wU a).toNat:Int)from rfl];show _=64 - (Go.Lib.bitLenAux 64 (uN a):Int)
 by_cases h0:uN a=0
 ·rw [Ik (L:=0) (by omega) (.inl rfl) 64 (by omega),h0,Go.Lib.bitLenAux_zero];rfl
 ·obtain ⟨h1,h2,h3⟩:=Go.Lib.bitLenAux_bounds 64 (uN a) (uo a) h0;have h4:Go.Lib.bitLenAux 64 (uN a)≤64:=Go.Lib.bitLenAux_le 64 _ 64 (uo a)
  rw [Ik h3 (.inr h2) 64 h4];omega
def Il (a:Int):Nat→Nat
 | 0=>0
 | k+1=>if ig a (63 - k)then 0 else Il a k+1
theorem Og {a:Int} {c m:Nat} (hc:c<64) (h:uN a=2 ^ c*(2*m+1)):∀ k,k≤64→64 - c≤k→Il a k=k - (64 - c)
 | 0,_,h2=>by omega
 | k+1,h1,h2=>by
  have hb:ig a (63 - k)=(decide (63 - k≥c)&&(2*m+1).testBit (63 - k - c)):=by show (uN a).testBit _=_;rw [h,Nat.testBit_two_pow_mul]
  rcases Nat.lt_or_ge (63 - k) c with hk | hk
  ·rw [Il,hb,decide_eq_false (by omega),Bool.false_and,if_neg (by decide),Og hc h k (by omega) (by omega)];omega
  ·rw [Il,hb,decide_eq_true hk,show 63 - k - c=0 by omega,Nat.testBit_zero,show (2*m+1) % 2=1 by omega,if_pos (by decide)];omega
theorem Fa {a:Int} (h:uN a=0):∀ k,Il a k=k
 | 0=>rfl
 | k+1=>by rw [Il,ig,h,Nat.zero_testBit,if_neg (by decide),Fa h k]
theorem Fp (a:Int):((Il a 64:Nat):Int)=pK 6 a:=by
 rw [show pK 6 a=((Go.Lib.ctz 64 (wU a).toNat:Nat):Int)from rfl];show _=((Go.Lib.ctz 64 (uN a):Nat):Int)
 by_cases h0:uN a=0
 ·rw [Fa h0,h0];rfl
 ·obtain ⟨m,h1,h2⟩:=Go.Lib.ctzFrom_spec 64 (uN a) (by omega) (uo a);rw [Og h2 h1 64 (Nat.le_refl _) (by omega),Go.Lib.ctz,if_neg h0];omega
def CP (f:Nat→Bool):Nat→Nat
 | 0=>0
 | k+1=>CP f k+(if f k then 1 else 0)
theorem Je (f:Nat→Bool):∀ k,CP f k≤k
 | 0=>Nat.le_refl _
 | k+1=>by have:=Je f k;rw [CP];split <;> omega
theorem wX {f g:Nat→Bool}:∀ {k},(∀ j,j<k→f j=g j)→CP f k=CP g k
 | 0,_=>rfl
 | k+1,h=>by rw [CP,CP,wX (fun j hj=>h j (by omega)),h k (by omega)]
theorem KP (f:Nat→Bool) (n:Nat):∀ k,CP f (n+k)=CP f n+CP (fun j=>f (n+j)) k
 | 0=>rfl
 | k+1=>by rw [← Nat.add_assoc,CP,KP f n k,CP,Nat.add_assoc]
def jy:List Nat→Nat
 | []=>0
 | b::l=>b+256*jy l
def Oa (c:Nat):Nat→Nat
 | 0=>0
 | k+1=>c+256*Oa c k
theorem and_split {b c:Nat} (y z:Nat) (hb:b<256) (hc:c<256):(b+256*y) &&& (c+256*z)=(b &&& c)+256*(y &&& z):=by
 have hbc:b &&& c<2 ^ 8:=Nat.and_lt_two_pow b hc;refine Nat.eq_of_testBit_eq fun j=>?_;rw [Nat.testBit_and,Nat.add_comm b,Nat.add_comm c,Nat.add_comm (b &&& c),show (256:Nat)=2 ^ 8 from rfl,Nat.testBit_two_pow_mul_add _ hb,Nat.testBit_two_pow_mul_add _ hc,Nat.testBit_two_pow_mul_add _ hbc];split
 ·rw [Nat.testBit_and]
 ·rw [Nat.testBit_and]
def g1B (b:Nat):Nat:=(b / 2 &&& 85)+(b &&& 85)
def g2B (b:Nat):Nat:=(b / 4 &&& 51)+(b &&& 51)
def g3B (b:Nat):Nat:=(b / 16+b) % 16
theorem aax:∀ b:_root_.Fin 128,∀ c:_root_.Fin 2,(b.val+128*c.val) &&& 85=b.val &&& 85:=by decide+kernel
theorem aaw:∀ b:_root_.Fin 64,∀ c:_root_.Fin 4,(b.val+64*c.val) &&& 51=b.val &&& 51:=by decide+kernel
theorem ZV:∀ b:_root_.Fin 256,g3B (g2B (g1B b.val))=CP b.val.testBit 8:=by decide+kernel
theorem ZW:∀ b:_root_.Fin 256,g1B b.val<256:=by decide+kernel
theorem Zc:∀ b:_root_.Fin 256,g2B b.val<256∧g2B (g1B b.val) % 16≤4∧g2B (g1B b.val) / 16≤4:=by decide+kernel
theorem YE:∀ l:List Nat,(∀ b∈l,b<256)→(jy l / 2 &&& Oa 85 l.length)+(jy l &&& Oa 85 l.length)=jy (l.map g1B)
 | [],_=>rfl
 | b::l,h=>by
  have ih:=YE l (fun c hc=>h c (List.mem_cons_of_mem _ hc));have hb:b<256:=h b List.mem_cons_self
  have e:=aax ⟨b / 2,by omega⟩ ⟨jy l % 2,by omega⟩;simp only at e;rw [List.map_cons,jy,jy,List.length_cons,Oa,show (b+256*jy l) / 2=(b / 2+128*(jy l % 2))+256*(jy l / 2) by omega,and_split _ _ (by omega) (by decide),and_split _ _ hb (by decide),e,← ih,g1B];omega
theorem YD:∀ l:List Nat,(∀ b∈l,b<256)→(jy l / 4 &&& Oa 51 l.length)+(jy l &&& Oa 51 l.length)=jy (l.map g2B)
 | [],_=>rfl
 | b::l,h=>by
  have ih:=YD l (fun c hc=>h c (List.mem_cons_of_mem _ hc));have hb:b<256:=h b List.mem_cons_self
  have e:=aaw ⟨b / 4,by omega⟩ ⟨jy l % 4,by omega⟩;simp only at e;rw [List.map_cons,jy,jy,List.length_cons,Oa,show (b+256*jy l) / 4=(b / 4+64*(jy l % 4))+256*(jy l / 4) by omega,and_split _ _ (by omega) (by decide),and_split _ _ hb (by decide),e,← ih,g2B];omega
theorem YC:∀ l:List Nat,(∀ b∈l,b % 16≤4∧b / 16≤4)→(jy l / 16+jy l) &&& Oa 15 l.length=jy (l.map g3B)∧jy l % 16≤4
 | [],_=>⟨rfl,by decide⟩
 | b::l,h=>by
  obtain ⟨ih,hy⟩:=YC l (fun c hc=>h c (List.mem_cons_of_mem _ hc));obtain ⟨h1,h2⟩:=h b List.mem_cons_self;refine ⟨?_,by rw [jy];omega⟩;rw [List.map_cons,jy,jy,List.length_cons,Oa,show (b+256*jy l) / 16+(b+256*jy l)=(b / 16+16*(jy l % 16)+b)+256*(jy l / 16+jy l) by omega,and_split _ _ (by omega) (by decide),ih,g3B,show 15=2 ^ 4 - 1 from rfl,Nat.and_two_pow_sub_one_eq_mod];omega
theorem KZ:∀ l:List Nat,(∀ b∈l,b<256)→jy l<256 ^ l.length
 | [],_=>by decide
 | b::l,h=>by
  have:=KZ l (fun c hc=>h c (List.mem_cons_of_mem _ hc));have hb:b<256:=h b List.mem_cons_self
  rw [jy,List.length_cons,Nat.pow_succ];omega
theorem PL:∀ l:List Nat,(∀ b∈l,b<256)→CP (jy l).testBit (8*l.length)=(l.map fun b=>CP b.testBit 8).sum
 | [],_=>rfl
 | b::l,h=>by
  have hb:b<2 ^ 8:=h b List.mem_cons_self;rw [List.map_cons,List.sum_cons,← PL l (fun c hc=>h c (List.mem_cons_of_mem _ hc)),List.length_cons,show 8*(l.length+1)=8+8*l.length by omega,KP,jy,Nat.add_comm b];congr 1
  ·exact wX fun j hj=>by rw [show (256:Nat)=2 ^ 8 from rfl,Nat.testBit_two_pow_mul_add _ hb,if_pos hj]
  ·exact wX fun j hj=>by rw [show (256:Nat)=2 ^ 8 from rfl,Nat.testBit_two_pow_mul_add _ hb,if_neg (by omega),Nat.add_sub_cancel_left]
theorem Me:∀ (k x:Nat),x<256 ^ k → ∃ l:List Nat,l.length=k∧(∀ b∈l,b<256)∧jy l=x
 | 0,x,h=>⟨[],rfl,(fun _ h=>nomatch h),by rw [Nat.pow_zero]at h;simp only [jy];omega⟩
 | k+1,x,h=>by
  rw [Nat.pow_succ]at h;obtain ⟨l,h1,h2,h3⟩:=Me k (x / 256) (by omega);refine ⟨x % 256::l,by simp [h1],fun b hb=>?_,by rw [jy,h3];omega⟩;rcases List.mem_cons.1 hb with rfl | hb
  ·omega
  ·exact h2 b hb
theorem zf (x:Nat) {d:Int} {n:Nat} (hd:d=(n:Nat)):(x:Int).fdiv d=((x / n:Nat):Int):=by
 subst hd;rw [Int.fdiv_eq_ediv_of_nonneg _ (by omega)];simp
def Ij:List Nat→List Nat→List Nat
 | a::l,b::m=>(a+b)::Ij l m
 | [],m=>m
 | l,[]=>l
theorem Lc:∀ l m,jy (Ij l m)=jy l+jy m
 | a::l,b::m=>by rw [Ij,jy,jy,jy,Lc l m];omega
 | [],m=>by rw [Ij,jy];omega
 | a::l,[]=>by rw [Ij];rfl;exact fun h=>nomatch h
theorem Rz {A B:Nat}:∀ {l m:List Nat},(∀ b∈l,b≤A)→(∀ b∈m,b≤B) → ∀ b∈Ij l m,b≤A+B
 | a::l,b::m,h1,h2,x,hx=>by
  rw [Ij]at hx;rcases List.mem_cons.1 hx with rfl | hx
  ·have:=h1 a List.mem_cons_self;have:=h2 b List.mem_cons_self;omega
  ·exact Rz (fun c hc=>h1 c (List.mem_cons_of_mem _ hc)) (fun c hc=>h2 c (List.mem_cons_of_mem _ hc)) x hx
 | [],m,h1,h2,x,hx=>by rw [Ij]at hx;have:=h2 x hx;omega
 | a::l,[],h1,h2,x,hx=>by rw [Ij]at hx;have:=h1 x hx;omega;exact fun h=>nomatch h
theorem L8:∀ (k:Nat) (l:List Nat),(∀ b∈l,b<256)→jy l / 256 ^ k=jy (l.drop k)
 | 0,l,_=>by simp
 | k+1,[],_=>by simp [jy]
 | k+1,b::l,h=>by
  have hb:=h b List.mem_cons_self;rw [List.drop_succ_cons,← L8 k l (fun c hc=>h c (List.mem_cons_of_mem _ hc)),Nat.pow_succ,Nat.mul_comm,← Nat.div_div_eq_div_mul,jy];congr 1;omega
theorem PV {n k:Nat} (h:n+n / k<2 ^ 64):qQ (k:Int) (n:Int)=((n+n / k:Nat):Int):=by
 rw [qQ,zf n (n:=k) rfl,← Int.natCast_add];exact xR h
theorem VL {A:Nat}:∀ l:List Nat,(∀ b∈l,b≤A)→jy l*255+A≤A*256 ^ l.length
 | [],_=>by simp [jy]
 | b::l,h=>by
  have ih:=VL l (fun c hc=>h c (List.mem_cons_of_mem _ hc));have hb:=h b List.mem_cons_self
  rw [jy,List.length_cons,Nat.pow_succ,← Nat.mul_assoc];generalize A*256 ^ l.length=P at ih ⊢;omega
theorem Xi {l:List Nat} {A K:Nat} (hl:l.length=8) (hA:∀ b∈l,b≤A) (h:A+A<256) (k:Nat) (hK:K=256 ^ k):qQ (K:Int) (jy l:Int)=jy (Ij l (l.drop k))∧(∀ b∈Ij l (l.drop k),b≤A+A)∧jy (Ij l (l.drop k))<2 ^ 64∧(Ij l (l.drop k)).length=8:=by
 subst hK;have hb:=Rz hA (fun b hb=>hA b (List.drop_subset k l hb))
 have e:jy l+jy l / 256 ^ k=jy (Ij l (l.drop k)):=by rw [L8 k l fun b hb=>Nat.lt_of_le_of_lt (hA b hb) (by omega),Lc]
 have hlen:∀ l m:List Nat,m.length≤l.length→(Ij l m).length=l.length:=fun l=>by
  induction l with
  | nil=>intro m h;cases m with
   | nil=>rfl
   | cons=>cases h
  | cons a l ih=>intro m h;cases m with
   | nil=>rfl
   | cons b m=>exact congrArg (· + 1) (ih m (Nat.le_of_succ_le_succ h))
 have h2:=KZ _ (fun b hb'=>Nat.lt_of_le_of_lt (hb b hb') h);have h3:=hlen l (l.drop k) (by rw [List.length_drop];omega)
 rw [hl]at h3;rw [h3]at h2;exact ⟨by rw [PV (by rw [e];exact h2),e],hb,h2,h3⟩
theorem TQ {x:Nat} (h:x<2 ^ 64):Jh x=CP x.testBit 64:=by
 obtain ⟨l,hl,hb,rfl⟩:=Me 8 x h;have hp:=PL l hb
 rw [hl]at hp;rw [hp];have hb1:∀ b∈l.map g1B,b<256:=by rintro b hb';obtain ⟨c,hc,rfl⟩:=List.mem_map.1 hb';exact ZW ⟨c,hb c hc⟩
 have hb2:∀ b∈(l.map g1B).map g2B,b<256∧b % 16≤4∧b / 16≤4:=by
  rintro b hb';obtain ⟨c,hc,rfl⟩:=List.mem_map.1 hb';obtain ⟨d,hd,rfl⟩:=List.mem_map.1 hc;exact ⟨(Zc ⟨_,hb1 _ hc⟩).1,(Zc ⟨d,hb d hd⟩).2⟩
 have s1:=YE l hb;have s2:=YD _ hb1
 have s3:=(YC _ (fun b h'=>(hb2 b h').2)).1;have n1:=KZ _ hb1
 have n2:=KZ _ (fun b h'=>(hb2 b h').1);simp only [List.length_map,hl]at s1 s2 s3 n1 n2;have m1:Oa 85 8=6148914691236517205:=rfl
 have m2:Oa 51 8=3689348814741910323:=rfl;have m3:Oa 15 8=1085102592571150095:=rfl
 rw [m1]at s1;rw [m2]at s2;rw [m3]at s3;have e1:Ed (jy l)=((jy (l.map g1B):Nat):Int):=by
  rw [Ed,zf _ (d:=2) (n:=2) rfl,show (6148914691236517205:Int)=((6148914691236517205:Nat):Int)from rfl,Wn (by omega) (by decide),Wn h (by decide),← s1,← Int.natCast_add];exact xR (by rw [s1];omega)
 have e2:FZ (jy (l.map g1B))=((jy ((l.map g1B).map g2B):Nat):Int):=by
  rw [FZ,zf _ (d:=4) (n:=4) rfl,show (3689348814741910323:Int)=((3689348814741910323:Nat):Int)from rfl,Wn (by omega) (by decide),Wn (by omega) (by decide),← s2,← Int.natCast_add];exact xR (by rw [s2];omega)
 have hle:jy ((l.map g1B).map g2B) / 16+jy ((l.map g1B).map g2B)<2 ^ 64:=by
  have hlen2:((l.map g1B).map g2B).length=8:=by simp [hl]
  have h7:=VL (A:=79) _ (fun b h'=>show b≤79 by have:=(hb2 b h').2;omega);rw [hlen2,show 256 ^ 8=18446744073709551616 from rfl]at h7;generalize jy ((l.map g1B).map g2B)=X at h7 ⊢;omega
 have e3:Ji (jy ((l.map g1B).map g2B))=((jy (((l.map g1B).map g2B).map g3B):Nat):Int):=by
  rw [Ji,zf _ (d:=16) (n:=16) rfl,← Int.natCast_add,wU,xR hle,show (1085102592571150095:Int)=((1085102592571150095:Nat):Int)from rfl,Wn hle (by decide),s3]
 rw [Jh,e1,e2,e3];have hs:(l.map fun b=>CP b.testBit 8)=((l.map g1B).map g2B).map g3B:=by
  rw [List.map_map,List.map_map];exact List.map_congr_left fun b hb'=>(ZV ⟨b,hb b hb'⟩).symm
 rw [hs];have hd:∀ b∈((l.map g1B).map g2B).map g3B,b≤8:=by
  rw [← hs];rintro b hb';obtain ⟨c,hc,rfl⟩:=List.mem_map.1 hb';exact Je _ _
 have hlen:(((l.map g1B).map g2B).map g3B).length=8:=by simp [hl]
 generalize ((l.map g1B).map g2B).map g3B=q at *
 match q,hlen with
 | [c0,c1,c2,c3,c4,c5,c6,c7],_ =>
  simp only [List.mem_cons,List.not_mem_nil,or_false,forall_eq_or_imp,forall_eq]at hd;obtain ⟨d0,d1,d2,d3,d4,d5,d6,d7⟩:=hd;have hq:∀ b∈[c0,c1,c2,c3,c4,c5,c6,c7],b≤8:=by simp only [List.mem_cons,List.not_mem_nil,or_false,forall_eq_or_imp,forall_eq];exact ⟨d0,d1,d2,d3,d4,d5,d6,d7⟩
  obtain ⟨m1,b1,_,g1⟩:=Xi (l:=[c0,c1,c2,c3,c4,c5,c6,c7]) (K:=256) rfl hq (by decide) 1 rfl;obtain ⟨m2,b2,_,g2⟩:=Xi (K:=65536) g1 b1 (by decide) 2 rfl;obtain ⟨m3,b3,k3,_⟩:=Xi (K:=4294967296) g2 b2 (by decide) 4 rfl;have e1:qQ 4294967296 (qQ 65536 (qQ 256 (jy [c0,c1,c2,c3,c4,c5,c6,c7])))=_:=((congrArg (fun z=>qQ 4294967296 (qQ 65536 z)) m1).trans (congrArg (fun z=>qQ 4294967296 z) m2)).trans m3
  rw [e1];rw [Zp,Fh k3,show uN 127=2 ^ 7 - 1 from rfl,Nat.and_two_pow_sub_one_eq_mod,wI,IntKind.wrap_i64];simp only [List.sum_cons,List.sum_nil];simp only [Ij,List.drop];rw [jy];generalize jy _=Z;omega
theorem TR (a:Int):((CP (ig a) 64:Nat):Int)=pK 4 a:=by
 rw [show pK 4 a=Jh (wU a)from rfl,Dz,TQ (uo a)]
def uT (a b:Int) (k:Nat) (s:Int×Int):Int×Int :=
 if ig b k=false then (wI (wI (s.1*2)+wI (s.2.fdiv 9223372036854775808)),wU (s.2*2))else
 if k=63 then
  (if wU (s.2*2)<wU a then (wI (wI (wI (wI (s.1*2)+wI (s.2.fdiv 9223372036854775808)) - a.fdiv 9223372036854775808) - 1),wU (wU (s.2*2) - wU a))else (wI (wI (wI (s.1*2)+wI (s.2.fdiv 9223372036854775808)) - a.fdiv 9223372036854775808),wU (wU (s.2*2) - wU a)))
 else
  (if wU (wU (s.2*2)+wU a)<wU (s.2*2)then (wI (wI (wI (wI (s.1*2)+wI (s.2.fdiv 9223372036854775808))+a.fdiv 9223372036854775808)+1),wU (wU (s.2*2)+wU a))else (wI (wI (wI (s.1*2)+wI (s.2.fdiv 9223372036854775808))+a.fdiv 9223372036854775808),wU (wU (s.2*2)+wU a)))
def wTo (a b:Int):Nat→Int×Int
 | 0=>(0,0)
 | m+1=>uT a b (63 - m) (wTo a b m)
def N8 (b:Int):Nat→Int
 | 0=>0
 | m+1=>2*N8 b m+(if ig b (63 - m)=true then (if m=0 then -1 else 1)else 0)
theorem UJ (x:Int):x.fdiv 9223372036854775808=x / 9223372036854775808:=Int.fdiv_eq_ediv_of_nonneg _ (by decide)
theorem RX {a b acc:Int} {k:Nat} {s:Int×Int} (ha:inW a) (h1:s.1=wI (acc / 18446744073709551616)) (h2:s.2=acc % 18446744073709551616) :
 (uT a b k s).1=wI ((2*acc+(if ig b k=true then (if k=63 then -a else a)else 0)) / 18446744073709551616)∧(uT a b k s).2=(2*acc+(if ig b k=true then (if k=63 then -a else a)else 0)) % 18446744073709551616:=by
 obtain ⟨hi,lo⟩:=s;simp only at h1 h2;unfold uT wI wU;simp only [UJ,IntKind.wrap_i64,IntKind.wrap_u64]at *
 obtain ⟨g1,g2⟩:=ha;cases hb:ig b k with
 | false=>simp only [if_true,Bool.false_eq_true,if_false];subst h1 h2;constructor <;> omega
 | true =>
  simp only [Bool.true_eq_false,if_false,if_true];by_cases hk:k=63
  ·simp only [hk,if_true];subst h1 h2;split <;> constructor <;> simp only <;> omega
  ·simp only [hk,if_false];subst h1 h2;split <;> constructor <;> simp only <;> omega
theorem Oj {a b:Int} (ha:inW a):∀ m,m≤64→(wTo a b m).1=wI (a*N8 b m / 18446744073709551616)∧(wTo a b m).2=a*N8 b m % 18446744073709551616
 | 0,_=>by rw [N8,Int.mul_zero];exact ⟨rfl,rfl⟩
 | m+1,h=>by
  obtain ⟨i1,i2⟩:=Oj (b:=b) ha m (by omega);have hs:=RX (b:=b) (k:=63 - m) ha i1 i2
  have e:2*(a*N8 b m)+(if ig b (63 - m)=true then (if 63 - m=63 then -a else a)else 0)=a*N8 b (m+1):=by
   rw [N8,Int.mul_add,← Int.mul_assoc a 2,Int.mul_comm a 2,Int.mul_assoc 2];congr 1;cases ig b (63 - m)with
   | false=>simp
   | true =>
    by_cases hm:m=0
    ·simp [hm]
    ·simp [hm,show ¬ 63 - m=63 by omega]
  rw [e]at hs;exact hs
theorem J4 {b:Int}:∀ m,m<64→N8 b (m+1)=((uN b / 2 ^ (63 - m):Nat):Int) - (if ig b 63=true then 2 ^ (m+1)else 0)
 | 0,_=>by
  have hu:=uo b;rw [N8,N8];simp only [if_true,Nat.sub_zero];rw [ig,Nat.testBit_eq_decide_div_mod_eq];simp only [decide_eq_true_eq];split <;> simp <;> omega
 | m+1,h=>by
  have ih:=J4 (b:=b) m (by omega);rw [N8,ih,if_neg (by omega:¬ m+1=0)];have e1:uN b / 2 ^ (63 - m)=uN b / 2 ^ (63 - (m+1)) / 2:=by rw [show 63 - m=(63 - (m+1))+1 by omega,Nat.pow_succ,← Nat.div_div_eq_div_mul]
  have e2:ig b (63 - (m+1))=decide (uN b / 2 ^ (63 - (m+1)) % 2=1):=Nat.testBit_eq_decide_div_mod_eq;rw [e1,e2];have e3:(2:Int) ^ (m+1+1)=2*2 ^ (m+1):=by rw [Int.pow_succ];omega
  rw [e3];generalize uN b / 2 ^ (63 - (m+1))=q;generalize (2:Int) ^ (m+1)=w;simp only [decide_eq_true_eq];split <;> split <;> omega
theorem J5 {b:Int} (hb:inW b):N8 b 64=b:=by
 have h:=J4 (b:=b) 63 (by omega);have hu:=nK b
 rw [h,ig,Nat.testBit_eq_decide_div_mod_eq];simp only [decide_eq_true_eq];obtain ⟨h1,h2⟩:=hb;split <;> simp <;> omega
theorem JY {a b:Int} (ha:inW a) (hb:inW b):wTo a b 64=(wI (oh a b),C9 a b):=by
 obtain ⟨h1,h2⟩:=Oj (b:=b) ha 64 (Nat.le_refl _);rw [J5 hb]at h1 h2;have hua:=nK a;have hub:=nK b
 obtain ⟨P,hP⟩:∃ P:Nat,P=uN a*uN b:=⟨_,rfl⟩;have hh:Uo a b=((P / 18446744073709551616:Nat):Int):=by rw [hP];rfl
 have hl:C9 a b=((P % 18446744073709551616:Nat):Int):=by rw [hP];rfl
 have e:a*b=(P:Int) - (if a<0 then 18446744073709551616*(uN b:Int)else 0) - (if b<0 then 18446744073709551616*(uN a:Int)else 0)+(if a<0∧b<0 then 18446744073709551616*18446744073709551616 else 0):=by
  rw [hP,Int.natCast_mul];obtain ⟨a1,a2⟩:=ha;obtain ⟨b1,b2⟩:=hb;have ea:(uN a:Int)=a+(if a<0 then 18446744073709551616 else 0):=by split <;> omega
  have eb:(uN b:Int)=b+(if b<0 then 18446744073709551616 else 0):=by split <;> omega
  rw [ea,eb];by_cases ca:a<0
  ·by_cases cb:b<0
   ·simp only [ca,cb,if_true,and_self,Int.add_mul,Int.mul_add];omega
   ·simp only [ca,cb,if_true,if_false,and_false,Int.add_mul,Int.mul_add];omega
  ·by_cases cb:b<0
   ·simp only [ca,cb,if_true,if_false,false_and,Int.add_mul,Int.mul_add];omega
   ·simp only [ca,cb,if_false,false_and,Int.add_mul,Int.mul_add];omega
 have ua:=uo a;have ub:=uo b
 refine Prod.ext ?_ ?_
 ·rw [h1];show wI _=wI _
  rw [oh,Jt,hh,e];unfold wI wU;simp only [IntKind.wrap_i64,IntKind.wrap_u64];by_cases ca:a<0 <;> by_cases cb:b<0 <;> simp only [ca,cb,if_true,if_false,and_self,and_false,false_and] <;> omega
 ·rw [h2];show _=C9 a b
  rw [hl,e];by_cases ca:a<0 <;> by_cases cb:b<0 <;> simp only [ca,cb,if_true,if_false,and_self,and_false,false_and] <;> omega
end Go.Ab
