/- Part 20 of a proof of a statement about the given program: an abstract machine over the model, proved sound, and contracts of the functions that the statement reaches; the last part proves the statement, for every input, with no condition. -/
import Derived.Test.YtcfelhfcjdofoaaGreatDoorX17
import Derived.Test.YtcfelhfcjdofoaaGreatDoorX18
import Derived.Test.YtcfelhfcjdofoaaGreatDoorX15
set_option autoImplicit false
set_option linter.unusedSimpArgs false
set_option linter.unusedVariables false
set_option maxHeartbeats 4000000
set_option maxRecDepth 20000
namespace Go.Ab
open Go.Proofs Go.Sort
structure BT where
 k:_root_.Fin 8
 n:_root_.Fin 8
 w:Bool
 deriving DecidableEq
def bt0:BT:=⟨0,0,false⟩
instance:Inhabited BT:=⟨bt0⟩
def BT.t (x:BT):Tch:=⟨(x.k.val:Nat),(x.n.val:Nat),x.w⟩
def dJ (x:BT):AV:=oU x.t
def GR (x:BT):List Value:=[.int .i64 (x.k.val:Nat),.int .i64 (x.n.val:Nat),.bool x.w]
theorem bD (ids:List Id) (x:BT):dM ids (dJ x)=true:=rfl
theorem Ri (x y:AV):x.put [] y=y:=by cases x <;> rfl
theorem fP (σ:Id→Id) (x:BT):ren σ (dJ x)=dJ x:=aW (fun q=>by match q with | 0 | 1 | 2 | q+3=>rfl)
theorem Nv (x:BT):AX T aV 5 (dJ x)=some (GR x):=rfl
theorem QC:RF T aV 134 3 dJ GR where
 len _:=rfl
 one x v hv:=by
  simp [GR]at hv;rcases hv with rfl | rfl | rfl <;> rfl
 rep I ρ x:=(EO (Nv x)).1 I ρ
 uni I ρ x cs h:=(EO (Nv x)).2 I ρ cs h
 fits x:=rfl
 pack x:=rfl
 size:=rfl
 pos:=by decide
def Dp (x y:BT):Int:=if x.k≠y.k then (x.k.val:Int) - y.k.val else (x.n.val:Int) - y.n.val
theorem MI (x y:BT):AC Tryz.prog T aV 222 [dJ x,dJ y] [] (.int (Dp x y)) []:=by
 refine aA hT Tryz.func222 rfl rfl (Nat.le_of_ble_eq_true rfl) ?_;refine sg rfl ?_;refine sq (sq (rg [] rfl ?_));refine cd rfl (fun h1=>?_) (fun h1=>?_)
 ·have hne:x.k≠y.k:=by
   intro e;have h1':(((x.k.val:Nat):Int) != ((y.k.val:Nat):Int))=true:=h1
   rw [e]at h1';simp at h1'
  refine sg rfl ?_;refine WP.ret ?_;change Fin ..;refine dQ hT (by rfl) ?_;rw [Dp,if_pos hne];show IntKind.i64.wrap (((x.k.val:Nat):Int) - ((y.k.val:Nat):Int))=_
  exact cu (by omega) (by omega)
 ·have he:x.k=y.k:=by
   have h1':(((x.k.val:Nat):Int) != ((y.k.val:Nat):Int))=false:=h1;simp at h1';omega
  refine sk (sq (rg [] rfl ?_));refine WP.ret ?_;change Fin ..;refine dQ hT (by rfl) ?_;rw [Dp,if_neg (fun h=>h he)];show IntKind.i64.wrap (((x.n.val:Nat):Int) - ((y.n.val:Nat):Int))=_
  exact cu (by omega) (by omega)
theorem yE (x y:BT):Go.Proofs.ltOf Dp x y=decide (x.k.val<y.k.val∨x.k.val=y.k.val∧x.n.val<y.n.val):=by
 unfold Go.Proofs.ltOf;apply decide_eq_decide.2;simp only [Dp];grind
theorem NS:SWO (Go.Proofs.ltOf Dp) where
 irrefl x:=by rw [yE];simp
 trans x y z h1 h2:=by rw [yE]at *;simp at *;omega
 ntrans x y z h1 h2:=by rw [yE]at *;simp at *;omega
def rE (l:List BT):Ob:=bJ 134 dJ default l
def gY (l:List BT):List BT:=gy Dp l
theorem JI (l:List BT) (hl:l.length<4611686018427387904):AC Tryz.prog T aV 221 [.own (.b 0) l.length 0 l.length none,.clo 222 []] [rE l] (.tup []) [rE (gY l)] :=
 Ko hT Tryz.laySortA QC Tryz.isAgg134 Tryz.sizeOf134 NS (enters_of Tryz.func222 rfl rfl) MI ⟨_,Tryz.func221,rfl,rfl⟩ l hl
theorem ES (f g:BT):(f==g)=(((f.k.val:Nat):Int)==((g.k.val:Nat):Int)&&(((f.n.val:Nat):Int)==((g.n.val:Nat):Int)&&(f.w==g.w&&true))):=by
 obtain ⟨a,b,c⟩:=f;obtain ⟨a',b',c'⟩:=g;rw [Bool.eq_iff_iff];simp [BT.mk.injEq,_root_.Fin.ext_iff];exact ⟨fun ⟨h1,h2,h3⟩=>⟨by omega,by omega,h3⟩,fun ⟨h1,h2,h3⟩=>⟨by omega,by omega,h3⟩⟩
theorem Dn (l:List BT):AC Tryz.prog T aV 223 [.own (.b 0) l.length 0 l.length none] [bJ 134 dJ bt0 l] (.own (.b 0) l.length 0 (dd bt0 l l.length).length none) [.cells ⟨134,l.length,fun j=>bif Nat.blt j (dd bt0 l l.length).length then dJ ((dd bt0 l l.length).getD j bt0)else (T 134).zero,0⟩]:=by
 refine aA hT Tryz.func223 rfl rfl (Nat.le_of_ble_eq_true rfl) ?_;refine WP.ownlen 0 rfl rfl rfl (fun hl=>?_);refine sg rfl ?_;refine sq (sq (rg [] rfl ?_));refine cd rfl (fun h1=>?_) (fun h1=>?_)
 ·refine sg rfl ?_;refine WP.ret ?_;change Fin ..;have e:dd bt0 l l.length=l:=DX bt0 (fun j h0 hj=>by simp at h1;omega)
  rw [e];exact aH hT [] (ts:=[(2,.own (.b 0) l.length 0 l.length none)]) trivial ⟨⟨rfl,_,rfl,ah rfl⟩,tt⟩ ⟨⟨fun _ _=>KN (enc:=dJ) (d:=bt0) (fun _=>bD _ _) rfl _,.inl ⟨_,rfl,_,_,rfl,Nat.le_refl _,Nat.zero_le _,Nat.zero_le _,fun q hq=>ah (kT (show q<l.length from hq) _ _).symm⟩⟩,tt⟩ rfl rfl rfl
 ·refine sk (sq (sq (rg [] rfl ?_)));refine bk ?_;refine WP.loop (α:=Nat) (fun i=>aP [(0,.own (.b 0) l.length 0 l.length none),(3,.int i)] [(.b 0,bJ 134 dJ bt0 l)]) (fun i=>1≤i∧i≤l.length ∧ ∀ j,0<j→j<i→l.getD j bt0≠l.getD (j - 1) bt0) (fun i=>l.length - i) ?_ ?_
  ·refine ⟨1,?_,?_⟩
   ·exact ⟨Nat.le_refl _,by simp at h1;omega,fun j h1 h2=>by omega⟩
   ·refine em [] trivial ⟨cq,cq,tt⟩ ⟨obs rfl,tt⟩
  ·rintro i ⟨h1i,hi,hn⟩;refine sq (sq (rg [] rfl ?_));refine cd rfl (fun h4=>?_) (fun h4=>?_)
   ·have hil:i<l.length:=by simpa using h4
    have e1:=wH h1i (show i<2 ^ 63 by omega);have e2:=cu (n:=(i:Int) - 1) (by omega) (by omega)
    refine sk (sq (bk (sq (drs [] rfl ?_ ?_))))
    ·simp [aj,under,e2];omega
    refine cd rfl (fun h6=>?_) (fun h6=>?_)
    ·have hdup:l.getD i bt0=l.getD (i - 1) bt0:=by
      have e:(l.getD i bt0==l.getD (IntKind.i64.wrap ((i:Int) - 1)).toNat bt0)=true:=(ES _ _).trans h6;rw [e1]at e;simpa using e
     refine sg rfl ?_;refine sq (sq (rg [] rfl ?_));refine bk ?_;refine WP.loop (α:=List BT×Nat×Nat) (fun (⟨c,i2,k⟩:List BT×Nat×Nat)=>aP [(0,.own (.b 0) l.length 0 l.length none),(3,.int i2),(4,.own (.b 0) l.length i (l.length - i) none),(5,.int k)] [(.b 0,.cells ⟨134,l.length,fun j=>dJ (c.getD j bt0),0⟩)]) (fun (⟨c,i2,k⟩:List BT×Nat×Nat)=>c.length=l.length∧1≤k∧i+k≤l.length∧c.take i2=dd bt0 l (i+k)∧i2=(dd bt0 l (i+k)).length∧i2<i+k ∧ ∀ j,i+k≤j+1→c.getD j bt0=l.getD j bt0) (fun (⟨c,i2,k⟩:List BT×Nat×Nat)=>l.length - k) ?_ ?_
     ·refine ⟨(l,i,1),?_,?_⟩
      ·have e:=Ju bt0 (by omega) hdup;have e':=Jw bt0 l i (by omega) hn
       refine ⟨rfl,Nat.le_refl _,by omega,by rw [e,e'],by rw [e,e',List.length_take];omega,by omega,fun j hj=>rfl⟩
      ·refine em [] trivial ⟨cq,cq,cq,cq,tt⟩ ⟨obs rfl,tt⟩
     ·rintro ⟨c,i2,k⟩ ⟨hc,hk1,hk,htk,hi2,hi2k,hrest⟩;refine sq (sq (rg [] rfl ?_));refine cd rfl (fun h9=>?_) (fun h9=>?_)
      ·have hkl:i+k<l.length:=by simp at h9;omega
       have e3:=wH hk1 (show k<2 ^ 63 by omega);have e4:=cu (n:=(k:Int) - 1) (by omega) (by omega)
       have r1:=hrest (i+k) (by omega);have r2:=hrest (i+k - 1) (by omega)
       have e5:k - 1+i=i+k - 1:=by omega
       have e6:k+i=i+k:=by omega
       have r1':c.getD (k+i) bt0=l.getD (i+k) bt0:=by rw [e6];exact r1
       refine sk (sq (bk (sq (drs [] rfl ?_ ?_))))
       ·simp [aj,under,e4];omega
       refine cd rfl (fun h11=>?_) (fun h11=>?_)
       ·have hne:l.getD (i+k) bt0≠l.getD (i+k - 1) bt0:=by
         have e:(!(c.getD (k+i) bt0==c.getD ((IntKind.i64.wrap ((k:Int) - 1)).toNat+i) bt0))=true:=(congrArg Bool.not (ES _ _)).trans h11;rw [e3,e5,e6,r1,r2]at e;simpa using e
        refine sq (rgs [] rfl ?_ ?_)
        ·simp [aj,under];omega
        refine rg [] rfl ?_;refine rg [] rfl ?_;refine ⟨(c.set i2 (c.getD (k+i) bt0),i2+1,k+1),?_,?_,?_⟩
        ·have em:=Pe bt0 hne;refine ⟨by simpa using hc,by omega,by omega,?_,by rw [← Nat.add_assoc,em];simp;omega,by omega,fun j hj=>?_⟩
         ·rw [← Nat.add_assoc,em,r1',← htk];have h2:i2<c.length:=by omega
          apply List.ext_getElem?;intro q;rw [List.getElem?_take,List.getElem?_append,List.length_take,Nat.min_eq_left (Nat.le_of_lt h2),List.getElem?_take];rcases Nat.lt_trichotomy q i2 with h | h | h
          ·rw [if_pos (by omega),if_pos h,if_pos h,List.getElem?_set_ne (by omega)]
          ·subst h;simp [h2]
          ·rw [if_neg (by omega),if_neg (by omega)];simp [show q - i2≠0 by omega]
         ·simp only [List.getD_eq_getElem?_getD];rw [List.getElem?_set_ne (by omega)];have:=hrest j (by omega)
          simpa using this
        ·refine em [] trivial ⟨cq,cq,cq,cq,tt⟩ ⟨⟨fun _ _=>rfl,.inl ⟨_,rfl,_,_,rfl,Nat.le_refl _,by first | exact Nat.zero_le _ | omega,by first | exact Nat.zero_le _ | omega,fun q hq=>?_⟩⟩,tt⟩
         ·exact ah (Ky (enc:=dJ) (d:=bt0) (l:=c) (i:=i2) (x:=c.getD (k+i) bt0) (by omega) (by rw [Ri];rfl) q)
        ·(try simp only []);first | omega | grind
       ·have heq:l.getD (i+k) bt0=l.getD (i+k - 1) bt0:=by
         have e:(!(c.getD (k+i) bt0==c.getD ((IntKind.i64.wrap ((k:Int) - 1)).toNat+i) bt0))=false:=(congrArg Bool.not (ES _ _)).trans h11;rw [e3,e5,e6,r1,r2]at e;simpa using e
        refine sk (rg [] rfl ?_);refine ⟨(c,i2,k+1),?_,?_,?_⟩
        ·have em:=Ju bt0 (l:=l) (k:=i+k) (by omega) heq;exact ⟨hc,by omega,by omega,by rw [← Nat.add_assoc,em];exact htk,by rw [← Nat.add_assoc,em];exact hi2,by omega,fun j hj=>hrest j (by omega)⟩
        ·refine em [] trivial ⟨cq,cq,cq,cq,tt⟩ ⟨obs rfl,tt⟩
        ·(try simp only []);first | omega | grind
      ·have hkl:i+k=l.length:=by simp at h9;omega
       rw [hkl]at htk hi2 hi2k;refine xt (sq (rgs [] rfl ?_ ?_))
       ·simp [aj,under,rO,slB,capEq];omega
       refine sq (rgs [] rfl ?_ ?_)
       ·simp [aj,under,rO,slB,capEq];omega
       refine WP.ret ?_;change Fin ..;refine aH hT [] (ts:=[(2,.own (.b 0) l.length 0 (dd bt0 l l.length).length none)]) trivial ⟨⟨rfl,_,rfl,ah ?_⟩,tt⟩ ⟨⟨fun _ _=>KN (enc:=dJ) (d:=bt0) (fun _=>bD _ _) rfl _,.inl ⟨_,rfl,_,_,rfl,Nat.le_refl _,Nat.zero_le _,Nat.zero_le _,fun q hq=>ah ?_⟩⟩,tt⟩ rfl rfl rfl
       ·rw [← hi2];rfl
       ·simp only [Nat.zero_add];exact MG bt0 (enc:=dJ) (z:=(T 134).zero) htk hi2 (by omega) q hq
    ·have hne:l.getD i bt0≠l.getD (i - 1) bt0:=by
      have e:(l.getD i bt0==l.getD (IntKind.i64.wrap ((i:Int) - 1)).toNat bt0)=false:=(ES _ _).trans h6;rw [e1]at e;simpa using e
     refine sk (rg [] rfl ?_);refine ⟨i+1,?_,?_,?_⟩
     ·refine ⟨by omega,hil,fun j h0 hj=>?_⟩;rcases Nat.lt_or_ge j i with h | h
      ·exact hn j h0 h
      ·obtain rfl:j=i:=by omega
       exact hne
     ·refine em [] trivial ⟨cq,cq,tt⟩ ⟨obs rfl,tt⟩
     ·(try simp only []);first | omega | grind
   ·refine xt (sq (rg [] rfl ?_));refine WP.ret ?_;change Fin ..;have hil:i=l.length:=by simp at h4;omega
    subst hil;have e:dd bt0 l l.length=l:=DX bt0 hn
    rw [e];exact aH hT [] (ts:=[(2,.own (.b 0) l.length 0 l.length none)]) trivial ⟨⟨rfl,_,rfl,ah rfl⟩,tt⟩ ⟨⟨fun _ _=>KN (enc:=dJ) (d:=bt0) (fun _=>bD _ _) rfl _,.inl ⟨_,rfl,_,_,rfl,Nat.le_refl _,Nat.zero_le _,Nat.zero_le _,fun q hq=>ah (kT (show q<l.length from hq) _ _).symm⟩⟩,tt⟩ rfl rfl rfl
open Go.Proofs
def bt (k n:Int) (w:Bool):BT:=⟨_root_.Fin.ofNat 8 k.toNat,_root_.Fin.ofNat 8 n.toNat,w⟩
theorem Sr {k n:Int} {w:Bool} (hk:0≤k∧k<8) (hn:0≤n∧n<8):(bt k n w).t=⟨k,n,w⟩:=by
 simp only [bt,BT.t,_root_.Fin.ofNat,Tch.mk.injEq,and_true];refine ⟨?_,?_⟩ <;> omega
def uF (l:List BT):List Ob:=[.cells ⟨195,1,fun _ => .own (.b 1) l.length 0 l.length none,0⟩,bJ 134 dJ bt0 l]
theorem Js (k n:Int) (w:Bool):(AV.agg 134 3 fun q=>bif Nat.beq q 2 then .bool w else bif Nat.beq q 1 then .int n else bif Nat.beq q 0 then .int k else [AV.int 0,AV.int 0,AV.bool false].getD q .bad)=oU ⟨k,n,w⟩:=aW (fun q=>by match q with | 0 | 1 | 2 | q+3=>rfl)
theorem Qg (l:List BT) (k n:Int) (w:Bool) (hl:l.length≤100) (hk:0≤k∧k<8) (hn:0≤n∧n<8):AC Tryz.prog T aV 219 [.int k,.int n,.bool w,.ptr (.b 0) 1 0 []] [.cells ⟨195,1,fun _ => .own (.b 1) l.length 0 l.length none,0⟩,bJ 134 dJ bt0 l] (.tup []) [.cells ⟨195,1,fun _ => .own (.b 1) (l++[bt k n w]).length 0 (l++[bt k n w]).length none,0⟩,bJ 134 dJ bt0 (l++[bt k n w])]:=by
 refine aA hT Tryz.func219 rfl rfl (Nat.le_of_ble_eq_true rfl) ?_;refine rgs [] rfl ?_ ?_
 ·have hbt:(T 134).bytes=24:=rfl;simp [aj,under,hbt];omega
 change Fin ..;refine aH hT [] (ts:=[]) (l:=[]) trivial trivial ⟨obs rfl (hg:=q0 (ah (by rw [fK];rfl))),bM (bD _) rfl rfl (by rw [fK]) rfl rfl (QV (z:=(T 134).zero) rfl (by rw [dJ,Sr hk hn];exact Js k n w) (fun q hq=>rfl)),tt⟩ rfl rfl rfl
def jo (l:List vU):List BT:=l.map fun c=>bt 3 c.chan true
theorem Dx {l:List vU} {k:Nat} (hk:k<l.length):jo (l.take k)++[bt 3 (l.getD k Dy).chan true]=jo (l.take (k+1)):=by
 rw [List.take_add_one,List.getElem?_eq_getElem hk,jo,jo,List.map_append];simp [hk]
def qQ (p:ay) (s:PSt) (g:Int):List BT:=[bt 5 g true] ++
 (if (atI p s g).op=50 then [bt 1 (atI p s g).b false]else if (atI p s g).op=54 then [bt 1 (atI p s g).a false]else if (atI p s g).op=51 then [bt 1 (atI p s g).a true]else
 if (atI p s g).op=52 then [bt 1 (atI p s g).b true]else if (atI p s g).op=53 then [bt 1 (atI p s g).b true]else if (atI p s g).op=55 then [bt 2 (atI p s g).a true]else if (atI p s g).op=56 then [bt 2 (atI p s g).a true]else
 if (atI p s g).op=57 then [bt 2 (atI p s g).b true]else if (atI p s g).op=58 then [bt 3 (atI p s g).a true]else if (atI p s g).op=60 then [bt 3 (atI p s g).a true]else if (atI p s g).op=66 then [bt 3 (atI p s g).a true]else
 if (atI p s g).op=59 then [bt 3 (atI p s g).b true]else if (atI p s g).op=61 then jo (dS p s g).cases else
 if (atI p s g).op=62 then [bt 4 0 true]++(if s.count<6 then [bt 5 s.count true]else [])else
 if (atI p s g).op=63 then [bt 4 0 false]++(if kU s g (dY (goI s g) (atI p s g).a)then [bt 5 (dY (goI s g) (atI p s g).a) false]else [])else
 if (atI p s g).op=65 then [bt 6 0 true]else [])
def eU (p:ay) (s:PSt) (g:Int):List BT:=dd bt0 (gY (qQ p s g)) (gY (qQ p s g)).length
theorem eX.rng {p:ay} {s:PSt} {g:Int} (h:eX p s g):((atI p s g).op=50∨(atI p s g).op=52∨(atI p s g).op=53∨(atI p s g).op=57∨(atI p s g).op=59→0≤(atI p s g).b∧(atI p s g).b<8) ∧
 ((atI p s g).op=54∨(atI p s g).op=51∨(atI p s g).op=55∨(atI p s g).op=56∨(atI p s g).op=58∨(atI p s g).op=60∨(atI p s g).op=66→0≤(atI p s g).a∧(atI p s g).a<8):=by
 have hp:=h.prog;have hv:=hp.vars;have hl:=hp.locks;have hc:=hp.chans
 have ha:=h.at
 have hi:(atI p s g).op≠66→MW p (jv p (goI s g)) (atI p s g):=fun e=>by rw [ha.ins e];exact h.ins
 constructor
 ·intro e;have hi:=hi (by omega)
  rcases e with e | e | e | e | e
  ·have:=(hi.load e).2;unfold eP at this;omega
  ·have:=(hi.bump e).2.1;unfold eP at this;omega
  ·have:=(hi.cas e).2.1;unfold eP at this;omega
  ·have:=(hi.try_ e).2;omega
  ·have:=(hi.recv e).2.1;unfold eP at this;omega
 ·intro e;by_cases e66:(atI p s g).op=66
  ·have:=ha.send (.inr (.inr e66));unfold eP at this;omega
  have hi:=hi e66;rcases e with e | e | e | e | e | e | e
  ·have:=(hi.store (.inr e)).2;unfold eP at this;omega
  ·have:=(hi.store (.inl e)).2;unfold eP at this;omega
  ·have:=hi.lock (.inl e);omega
  ·have:=hi.lock (.inr e);omega
  ·have:=(hi.send e).1;unfold eP at this;omega
  ·have:=hi.close e;unfold eP at this;omega
  ·exact absurd e e66
theorem D7 {p:ay} {s:PSt} {g:Int} (h:eX p s g):(qQ p s g).length≤5:=by
 have h61:(atI p s g).op=61→(jo (dS p s g).cases).length≤4:=fun e=>by
  rw [jo,List.length_map];exact (h.sel e).2.len.2
 have one:∀ x:BT,[x].length≤4:=fun x=>by simp
 have hb:∀ l:List BT,l.length≤4→([bt 5 g true]++l).length≤5:=fun l h=>by simp;omega
 refine hb _ ?_;have it:∀ (c:Prop) [Decidable c] (a b:List BT),(c→a.length≤4)→b.length≤4→(if c then a else b).length≤4:=fun c _ a b h1 h2=>by by_cases h:c;rw [if_pos h];exact h1 h;rw [if_neg h];exact h2
 refine it _ _ _ (fun _=>one _) <| it _ _ _ (fun _=>one _) <| it _ _ _ (fun _=>one _) <| it _ _ _ (fun _=>one _) <| it _ _ _ (fun _=>one _) <| it _ _ _ (fun _=>one _) <| it _ _ _ (fun _=>one _) <| it _ _ _ (fun _=>one _) <| it _ _ _ (fun _=>one _) <| it _ _ _ (fun _=>one _) <| it _ _ _ (fun _=>one _) <| it _ _ _ (fun _=>one _) <|
  it _ _ _ h61 <| it _ _ _ (fun _=>?_) <| it _ _ _ (fun _=>?_) <| it _ _ _ (fun _=>one _) (by simp)
 ·split <;> simp
 ·split <;> simp
def Rj (l:List BT):List Ob:=[.cells ⟨195,1,fun _ => .own (.s 99 0) l.length 0 l.length none,0⟩,bJ 134 dJ bt0 l]
theorem uD (l:List BT) (k n:Int) (w:Bool) (hl:l.length≤100) (hk:0≤k∧k<8) (hn:0≤n∧n<8):AC Tryz.prog T aV 219 [.int k,.int n,.bool w,.ptr (.b 0) 1 0 []] (List.map (iG (sig [.s 7 0,.s 99 0] 0)) (Rj l)) (.tup []) (uF (l++[bt k n w])):=by
 have e:List.map (iG (sig [.s 7 0,.s 99 0] 0)) (Rj l)=uF l:=by
  show [_,iG _ (bJ 134 dJ bt0 l)]=_;rw [jk (fP _)];rfl
 rw [e];exact Qg l k n w hl hk hn
theorem Gt (l:List BT) (hl:l.length<4611686018427387904):AC Tryz.prog T aV 221 [.own (.b 0) l.length 0 l.length none,.clo 222 []] (List.map (iG (sig [.s 99 0] 0)) [bJ 134 dJ bt0 l]) (.tup []) [rE (gY l)]:=by
 have e:List.map (iG (sig [.s 99 0] 0)) [bJ 134 dJ bt0 l]=[rE l]:=by
  show [iG _ (bJ 134 dJ bt0 l)]=_;rw [jk (fP _)];rfl
 rw [e];exact JI l hl
def ddO (l:List BT):Ob := .cells ⟨134,l.length,fun j=>bif Nat.blt j (dd bt0 l l.length).length then dJ ((dd bt0 l l.length).getD j bt0)else (T 134).zero,0⟩
theorem Bv (l:List BT):AC Tryz.prog T aV 223 [.own (.b 0) l.length 0 l.length none] (List.map (iG (sig [.s 99 0] 0)) [bJ 134 dJ bt0 l]) (.own (.b 0) l.length 0 (dd bt0 l l.length).length none) [ddO l]:=by
 have e:List.map (iG (sig [.s 99 0] 0)) [bJ 134 dJ bt0 l]=[bJ 134 dJ bt0 l]:=by
  show [iG _ (bJ 134 dJ bt0 l)]=_;rw [jk (fP _)]
 rw [e];exact Dn l
theorem QJ (ids:List Id) (l:List BT):okO ids (ddO l):=fun i _=>by
 show dM ids (bif _ then _ else _)=true;exact KN (enc:=dJ) (d:=bt0) (fun _=>bD _ _) rfl _
theorem DK (p:ay) (s:PSt) (g:Int) (h:eX p s g):AC Tryz.prog T aV 160 [aC p,encS s,.int g] [] (rowP 134 dJ bt0 (eU p s g)) []:=by
 refine aA hT Tryz.func160 rfl rfl (Nat.le_of_ble_eq_true rfl) ?_;have h6:=h.pos
 have hc4:=h.prog.chans;have hc6:=h.valid.2.1
 have hrg:=h.rng;have hat:=h.at
 have ho1:∀ l:List BT,lg [.s 7 0,.s 99 0] [.cells ⟨195,1,fun _ => .own (.s 99 0) l.length 0 l.length none,0⟩,bJ 134 dJ bt0 l]:=fun l=>⟨fun _ _=>rfl,fun _ _=>rfl,tt⟩;have ho2:∀ l:List BT,lg (bs 2) (uF l):=fun l=>⟨fun _ _=>rfl,fun _ _=>rfl,tt⟩
 have hg0:∀ k n:Int,∀ w:Bool,0≤k∧k<8→0≤n∧n<8→AC Tryz.prog T aV 219 [.int k,.int n,.bool w,.ptr (.b 0) 1 0 []] (List.map (iG (sig [.s 7 0,.s 99 0] 0)) (Rj [bt 5 g true])) (.tup []) (uF ([bt 5 g true]++[bt k n w])):=fun k n w a b=>uD [bt 5 g true] k n w (by simp) a b;refine sg rfl ?_;refine sq ?_;refine WP.ent (st':=aP [(3,.rp 26 (aC p)),(4,.rp 62 (encS s)),(2,.int g)] []) (em [(.s 3 0,1),(.s 4 0,1)] ⟨sF,sF,tt⟩ ⟨rq,rq,cq,tt⟩ trivial) ?_;refine rg [] rfl ?_;refine sg rfl ?_;refine sq ?_;refine WP.ent (st':=aP [(2,.int g),(3,.rp 26 (aC p)),(4,.rp 62 (encS s)),(7,.ptr (.s 7 0) 1 0 []),(8,.clo 219 [.ptr (.s 7 0) 1 0 []])] [(.s 7 0,.cells ⟨195,1,fun _ => .own (.s 99 0) 0 0 0 none,0⟩),(.s 99 0,bJ 134 dJ bt0 [])]) ?_ ?_
 ·refine em [] trivial ⟨cq,cq,cq,cq,cq,tt⟩ ⟨obs rfl (hg:=q0 jc),⟨fun _ _=>rfl,.inr ⟨rfl,134,_,rfl,by decide⟩⟩,tt⟩
 refine rgs [⟨true,[.s 7 0,.s 99 0],.tup [],uF [bt 5 g true]⟩] rfl ?_ ?_
 ·have hq:=uD [] 5 g true (by simp) (by omega) (by omega);have z0:=ho1 [];have z1:=ho2 [bt 5 g true];exact au
 refine sq ?_;refine WP.ent (st':=aP [(2,.int g),(3,.rp 26 (aC p)),(4,.rp 62 (encS s)),(7,.ptr (.s 7 0) 1 0 []),(8,.clo 219 [.ptr (.s 7 0) 1 0 []])] [(.s 7 0,.cells ⟨195,1,fun _ => .own (.s 99 0) 1 0 1 none,0⟩),(.s 99 0,bJ 134 dJ bt0 [bt 5 g true])]) ?_ ?_
 ·refine em [] trivial ⟨cq,cq,cq,cq,cq,tt⟩ ⟨obs rfl,bM (bD _) rfl rfl rfl rfl rfl (fun q hq=>fP _ _),tt⟩
 refine rgs [CG.pure (aQ (atI p s g))] rfl ?_ ?_
 ·have hq:=MK p s g h;exact au
 refine WP.seqJ (α:=List BT) (fun l=>aP [(7,.ptr (.s 7 0) 1 0 [])] [(.s 7 0,.cells ⟨195,1,fun _ => .own (.s 99 0) l.length 0 l.length none,0⟩),(.s 99 0,bJ 134 dJ bt0 l)]) (fun l=>l=qQ p s g) ?_ ?_
 ·refine sq ?_;refine WP.ent (st':=aP [(2,.int g),(3,.rp 26 (aC p)),(4,.rp 62 (encS s)),(7,.ptr (.s 7 0) 1 0 []),(8,.clo 219 [.ptr (.s 7 0) 1 0 []]),(9,.rp 120 (aQ (atI p s g)))] [(.s 7 0,.cells ⟨195,1,fun _ => .own (.s 99 0) 1 0 1 none,0⟩),(.s 99 0,bJ 134 dJ bt0 [bt 5 g true])]) ?_ ?_
  ·refine em [(.s 9 0,1)] ⟨sF,tt⟩ ⟨cq,cq,cq,cq,cq,rq,tt⟩ ⟨obs rfl,bM (bD _) rfl rfl rfl rfl rfl (fun q hq=>rfl),tt⟩
  refine rg [] rfl ?_;refine bk (sq (rg [] rfl ?_));refine cd rfl (fun h6=>?_) (fun h6=>?_)
  ·have e:(atI p s g).op=50:=by simpa using h6
   have hx:=hrg.1 (by omega);refine rgs [⟨true,[.s 7 0,.s 99 0],.tup [],uF ([bt 5 g true]++[bt 1 (atI p s g).b false])⟩] rfl ?_ ?_
   ·have hq:=hg0 1 (atI p s g).b false (by omega) hx;have z0:=ho1 [bt 5 g true];have z1:=ho2 ([bt 5 g true]++[bt 1 (atI p s g).b false]);exact au
   refine ⟨[bt 5 g true]++[bt 1 (atI p s g).b false],?_,?_⟩
   ·simp [qQ,e]
   ·refine em [] trivial ⟨cq,tt⟩ ⟨obs rfl,bM (bD _) rfl rfl rfl rfl rfl (fun q hq=>fP _ _),tt⟩
  ·have e50:(atI p s g).op≠50:=by simpa using h6
   refine sg rfl ?_;refine cd rfl (fun h8=>?_) (fun h8=>?_)
   ·have e:(atI p s g).op=54:=by simpa using h8
    have hx:=hrg.2 (by omega);refine rgs [⟨true,[.s 7 0,.s 99 0],.tup [],uF ([bt 5 g true]++[bt 1 (atI p s g).a false])⟩] rfl ?_ ?_
    ·have hq:=hg0 1 (atI p s g).a false (by omega) hx;have z0:=ho1 [bt 5 g true];have z1:=ho2 ([bt 5 g true]++[bt 1 (atI p s g).a false]);exact au
    refine ⟨[bt 5 g true]++[bt 1 (atI p s g).a false],?_,?_⟩
    ·simp [qQ,e]
    ·refine em [] trivial ⟨cq,tt⟩ ⟨obs rfl,bM (bD _) rfl rfl rfl rfl rfl (fun q hq=>fP _ _),tt⟩
   ·have e54:(atI p s g).op≠54:=by simpa using h8
    refine sg rfl ?_;refine cd rfl (fun h10=>?_) (fun h10=>?_)
    ·have e:(atI p s g).op=51:=by simpa using h10
     have hx:=hrg.2 (by omega);refine rgs [⟨true,[.s 7 0,.s 99 0],.tup [],uF ([bt 5 g true]++[bt 1 (atI p s g).a true])⟩] rfl ?_ ?_
     ·have hq:=hg0 1 (atI p s g).a true (by omega) hx;have z0:=ho1 [bt 5 g true];have z1:=ho2 ([bt 5 g true]++[bt 1 (atI p s g).a true]);exact au
     refine ⟨[bt 5 g true]++[bt 1 (atI p s g).a true],?_,?_⟩
     ·simp [qQ,e]
     ·refine em [] trivial ⟨cq,tt⟩ ⟨obs rfl,bM (bD _) rfl rfl rfl rfl rfl (fun q hq=>fP _ _),tt⟩
    ·have e51:(atI p s g).op≠51:=by simpa using h10
     refine sq (sq (rg [] rfl ?_));refine cd rfl (fun h12=>?_) (fun h12=>?_)
     ·have e:(atI p s g).op=52:=by simpa using h12
      have hx:=hrg.1 (by omega);refine sk ?_;refine cd rfl (fun h12=>?_) (fun h12=>?_)
      ·refine rgs [⟨true,[.s 7 0,.s 99 0],.tup [],uF ([bt 5 g true]++[bt 1 (atI p s g).b true])⟩] rfl ?_ ?_
       ·have hq:=hg0 1 (atI p s g).b true (by omega) hx;have z0:=ho1 [bt 5 g true];have z1:=ho2 ([bt 5 g true]++[bt 1 (atI p s g).b true]);exact au
       refine ⟨[bt 5 g true]++[bt 1 (atI p s g).b true],?_,?_⟩
       ·simp [qQ,e]
       ·refine em [] trivial ⟨cq,tt⟩ ⟨obs rfl,bM (bD _) rfl rfl rfl rfl rfl (fun q hq=>fP _ _),tt⟩
      ·simp_all
     ·have e52:(atI p s g).op≠52:=by simpa using h12
      refine rg [] rfl ?_;refine cd rfl (fun h13=>?_) (fun h13=>?_)
      ·have e:(atI p s g).op=53:=by simpa using h13
       have hx:=hrg.1 (by omega);refine rgs [⟨true,[.s 7 0,.s 99 0],.tup [],uF ([bt 5 g true]++[bt 1 (atI p s g).b true])⟩] rfl ?_ ?_
       ·have hq:=hg0 1 (atI p s g).b true (by omega) hx;have z0:=ho1 [bt 5 g true];have z1:=ho2 ([bt 5 g true]++[bt 1 (atI p s g).b true]);exact au
       refine ⟨[bt 5 g true]++[bt 1 (atI p s g).b true],?_,?_⟩
       ·simp [qQ,e]
       ·refine em [] trivial ⟨cq,tt⟩ ⟨obs rfl,bM (bD _) rfl rfl rfl rfl rfl (fun q hq=>fP _ _),tt⟩
      ·have e53:(atI p s g).op≠53:=by simpa using h13
       refine sq (sq (rg [] rfl ?_));refine cd rfl (fun h15=>?_) (fun h15=>?_)
       ·have e:(atI p s g).op=55:=by simpa using h15
        have hx:=hrg.2 (by omega);refine sk ?_;refine cd rfl (fun h15=>?_) (fun h15=>?_)
        ·refine rgs [⟨true,[.s 7 0,.s 99 0],.tup [],uF ([bt 5 g true]++[bt 2 (atI p s g).a true])⟩] rfl ?_ ?_
         ·have hq:=hg0 2 (atI p s g).a true (by omega) hx;have z0:=ho1 [bt 5 g true];have z1:=ho2 ([bt 5 g true]++[bt 2 (atI p s g).a true]);exact au
         refine ⟨[bt 5 g true]++[bt 2 (atI p s g).a true],?_,?_⟩
         ·simp [qQ,e]
         ·refine em [] trivial ⟨cq,tt⟩ ⟨obs rfl,bM (bD _) rfl rfl rfl rfl rfl (fun q hq=>fP _ _),tt⟩
        ·simp_all
       ·have e55:(atI p s g).op≠55:=by simpa using h15
        refine rg [] rfl ?_;refine cd rfl (fun h16=>?_) (fun h16=>?_)
        ·have e:(atI p s g).op=56:=by simpa using h16
         have hx:=hrg.2 (by omega);refine rgs [⟨true,[.s 7 0,.s 99 0],.tup [],uF ([bt 5 g true]++[bt 2 (atI p s g).a true])⟩] rfl ?_ ?_
         ·have hq:=hg0 2 (atI p s g).a true (by omega) hx;have z0:=ho1 [bt 5 g true];have z1:=ho2 ([bt 5 g true]++[bt 2 (atI p s g).a true]);exact au
         refine ⟨[bt 5 g true]++[bt 2 (atI p s g).a true],?_,?_⟩
         ·simp [qQ,e]
         ·refine em [] trivial ⟨cq,tt⟩ ⟨obs rfl,bM (bD _) rfl rfl rfl rfl rfl (fun q hq=>fP _ _),tt⟩
        ·have e56:(atI p s g).op≠56:=by simpa using h16
         refine sg rfl ?_;refine cd rfl (fun h18=>?_) (fun h18=>?_)
         ·have e:(atI p s g).op=57:=by simpa using h18
          have hx:=hrg.1 (by omega);refine rgs [⟨true,[.s 7 0,.s 99 0],.tup [],uF ([bt 5 g true]++[bt 2 (atI p s g).b true])⟩] rfl ?_ ?_
          ·have hq:=hg0 2 (atI p s g).b true (by omega) hx;have z0:=ho1 [bt 5 g true];have z1:=ho2 ([bt 5 g true]++[bt 2 (atI p s g).b true]);exact au
          refine ⟨[bt 5 g true]++[bt 2 (atI p s g).b true],?_,?_⟩
          ·simp [qQ,e]
          ·refine em [] trivial ⟨cq,tt⟩ ⟨obs rfl,bM (bD _) rfl rfl rfl rfl rfl (fun q hq=>fP _ _),tt⟩
         ·have e57:(atI p s g).op≠57:=by simpa using h18
          refine sq (sq (rg [] rfl ?_));refine cd rfl (fun h20=>?_) (fun h20=>?_)
          ·have e:(atI p s g).op=58:=by simpa using h20
           have hx:=hrg.2 (by omega);refine sk ?_;refine cd rfl (fun h20=>?_) (fun h20=>?_)
           ·refine rgs [⟨true,[.s 7 0,.s 99 0],.tup [],uF ([bt 5 g true]++[bt 3 (atI p s g).a true])⟩] rfl ?_ ?_
            ·have hq:=hg0 3 (atI p s g).a true (by omega) hx;have z0:=ho1 [bt 5 g true];have z1:=ho2 ([bt 5 g true]++[bt 3 (atI p s g).a true]);exact au
            refine ⟨[bt 5 g true]++[bt 3 (atI p s g).a true],?_,?_⟩
            ·simp [qQ,e]
            ·refine em [] trivial ⟨cq,tt⟩ ⟨obs rfl,bM (bD _) rfl rfl rfl rfl rfl (fun q hq=>fP _ _),tt⟩
           ·simp_all
          ·have e58:(atI p s g).op≠58:=by simpa using h20
           refine sg rfl ?_;refine cd rfl (fun h21=>?_) (fun h21=>?_)
           ·have e:(atI p s g).op=60:=by simpa using h21
            have hx:=hrg.2 (by omega);refine sk ?_;refine cd rfl (fun h21=>?_) (fun h21=>?_)
            ·refine rgs [⟨true,[.s 7 0,.s 99 0],.tup [],uF ([bt 5 g true]++[bt 3 (atI p s g).a true])⟩] rfl ?_ ?_
             ·have hq:=hg0 3 (atI p s g).a true (by omega) hx;have z0:=ho1 [bt 5 g true];have z1:=ho2 ([bt 5 g true]++[bt 3 (atI p s g).a true]);exact au
             refine ⟨[bt 5 g true]++[bt 3 (atI p s g).a true],?_,?_⟩
             ·simp [qQ,e]
             ·refine em [] trivial ⟨cq,tt⟩ ⟨obs rfl,bM (bD _) rfl rfl rfl rfl rfl (fun q hq=>fP _ _),tt⟩
            ·simp_all
           ·have e60:(atI p s g).op≠60:=by simpa using h21
            refine rg [] rfl ?_;refine cd rfl (fun h22=>?_) (fun h22=>?_)
            ·have e:(atI p s g).op=66:=by simpa using h22
             have hx:=hrg.2 (by omega);refine rgs [⟨true,[.s 7 0,.s 99 0],.tup [],uF ([bt 5 g true]++[bt 3 (atI p s g).a true])⟩] rfl ?_ ?_
             ·have hq:=hg0 3 (atI p s g).a true (by omega) hx;have z0:=ho1 [bt 5 g true];have z1:=ho2 ([bt 5 g true]++[bt 3 (atI p s g).a true]);exact au
             refine ⟨[bt 5 g true]++[bt 3 (atI p s g).a true],?_,?_⟩
             ·simp [qQ,e]
             ·refine em [] trivial ⟨cq,tt⟩ ⟨obs rfl,bM (bD _) rfl rfl rfl rfl rfl (fun q hq=>fP _ _),tt⟩
            ·have e66:(atI p s g).op≠66:=by simpa using h22
             refine sg rfl ?_;refine cd rfl (fun h24=>?_) (fun h24=>?_)
             ·have e:(atI p s g).op=59:=by simpa using h24
              have hx:=hrg.1 (by omega);refine rgs [⟨true,[.s 7 0,.s 99 0],.tup [],uF ([bt 5 g true]++[bt 3 (atI p s g).b true])⟩] rfl ?_ ?_
              ·have hq:=hg0 3 (atI p s g).b true (by omega) hx;have z0:=ho1 [bt 5 g true];have z1:=ho2 ([bt 5 g true]++[bt 3 (atI p s g).b true]);exact au
              refine ⟨[bt 5 g true]++[bt 3 (atI p s g).b true],?_,?_⟩
              ·simp [qQ,e]
              ·refine em [] trivial ⟨cq,tt⟩ ⟨obs rfl,bM (bD _) rfl rfl rfl rfl rfl (fun q hq=>fP _ _),tt⟩
             ·have e59:(atI p s g).op≠59:=by simpa using h24
              refine sg rfl ?_;refine cd rfl (fun h26=>?_) (fun h26=>?_)
              ·have e:(atI p s g).op=61:=by simpa using h26
               have hse:=h.sel e;have hbn:=hse.1;have hb2:=h.fit.2.1
               have hsl:=hse.2.len;refine sq (drs [] rfl ?_ ?_)
               ·simp only [eP,jv,goI]at hbn hb2;simp [-List.getD_eq_getElem?_getD,aj,under];omega
               refine bk ?_;refine WP.loop (α:=Nat) (fun k=>aP [(7,.ptr (.s 7 0) 1 0 []),(8,.clo 219 [.ptr (.s 7 0) 1 0 []]),(91,rowP 215 pK Dy (dS p s g).cases),(92,.int (dS p s g).cases.length),(93,.int k)] [(.s 7 0,.cells ⟨195,1,fun _ => .own (.s 99 0) ([bt 5 g true]++jo ((dS p s g).cases.take k)).length 0 ([bt 5 g true]++jo ((dS p s g).cases.take k)).length none,0⟩),(.s 99 0,bJ 134 dJ bt0 ([bt 5 g true]++jo ((dS p s g).cases.take k)))]) (fun k=>k≤(dS p s g).cases.length) (fun k=>(dS p s g).cases.length - k) ?_ ?_
               ·refine ⟨0,?_,?_⟩
                ·exact Nat.zero_le _
                ·refine em [] trivial ⟨cq,cq,cq,cq,cq,tt⟩ ⟨obs rfl,bM (bD _) rfl rfl rfl rfl rfl (fun q hq=>rfl),tt⟩
               ·rintro k hk;refine sg rfl ?_;refine sq ?_;refine cd rfl (fun h28=>?_) (fun h28=>?_)
                ·have hkl:k<(dS p s g).cases.length:=by simp [-List.getD_eq_getElem?_getD]at h28;omega
                 have hch:=(hse.2.case (aG (dS p s g) k) (by unfold aG;rw [List.getD_eq_getElem?_getD,List.getElem?_eq_getElem hkl];exact List.getElem_mem _)).chan;have hsn:([bt 5 g true]++jo ((dS p s g).cases.take k))++[bt 3 (aG (dS p s g) k).chan true]=[bt 5 g true]++jo ((dS p s g).cases.take (k+1)):=by
                  rw [List.append_assoc,← Dx hkl]
                 have hln:([bt 5 g true]++jo ((dS p s g).cases.take k)).length≤100:=by simp [jo];omega
                 refine sk (sq (bk (sq (rgs [] rfl ?_ ?_))))
                 ·simp [-List.getD_eq_getElem?_getD,aj,under];omega
                 refine rgs [⟨true,[.s 7 0,.s 99 0],.tup [],uF (([bt 5 g true]++jo ((dS p s g).cases.take k))++[bt 3 (aG (dS p s g) k).chan true])⟩] rfl ?_ ?_
                 ·unfold eP at hch;have hq:=uD ([bt 5 g true]++jo ((dS p s g).cases.take k)) 3 (aG (dS p s g) k).chan true hln (by omega) (by omega)
                  have ha1:=ho1 ([bt 5 g true]++jo ((dS p s g).cases.take k));have ha2:=ho2 (([bt 5 g true]++jo ((dS p s g).cases.take k))++[bt 3 (aG (dS p s g) k).chan true])
                  exact au
                 refine rg [] rfl ?_;refine ⟨k+1,?_,?_,?_⟩
                 ·exact hkl
                 ·refine em [] trivial ⟨cq,cq,cq,cq,cq,tt⟩ ⟨obs rfl (hg:=q0 (ah (by rw [← hsn] <;> rfl))),bM (bD _) rfl rfl (by rw [← hsn] <;> rfl) rfl rfl (fun q hq=>by rw [← hsn];exact fP _ _),tt⟩
                 ·(try simp only []);first | omega | grind
                ·have hkl:k=(dS p s g).cases.length:=by simp [-List.getD_eq_getElem?_getD]at h28;omega
                 refine xt ?_;refine ⟨[bt 5 g true]++jo ((dS p s g).cases.take k),?_,?_⟩
                 ·rw [hkl,List.take_length];simp [qQ,e]
                 ·refine em [] trivial ⟨cq,tt⟩ ⟨obs rfl,bM (bD _) rfl rfl rfl rfl rfl (fun q hq=>rfl),tt⟩
              ·have e61:(atI p s g).op≠61:=by simpa using h26
               refine sg rfl ?_;refine cd rfl (fun h32=>?_) (fun h32=>?_)
               ·have e:(atI p s g).op=62:=by simpa using h32
                refine sq (rgs [⟨true,[.s 7 0,.s 99 0],.tup [],uF ([bt 5 g true]++[bt 4 0 true])⟩] rfl ?_ ?_)
                ·have hq:=hg0 4 0 true (by omega) (by omega);have z0:=ho1 [bt 5 g true];have z1:=ho2 ([bt 5 g true]++[bt 4 0 true]);exact au
                refine sg rfl ?_;refine cd rfl (fun h34=>?_) (fun h34=>?_)
                ·have hct:s.count<6:=by simpa using h34
                 refine WP.ent (st':=aP [(4,.rp 62 (encS s)),(7,.ptr (.s 7 0) 1 0 []),(8,.clo 219 [.ptr (.s 7 0) 1 0 []])] [(.s 7 0,.cells ⟨195,1,fun _ => .own (.s 99 0) 2 0 2 none,0⟩),(.s 99 0,bJ 134 dJ bt0 ([bt 5 g true]++[bt 4 0 true]))]) ?_ ?_
                 ·refine em [] trivial ⟨cq,cq,cq,tt⟩ ⟨obs rfl,bM (bD _) rfl rfl rfl rfl rfl (fun q hq=>fP _ _),tt⟩
                 refine rgs [⟨true,[.s 7 0,.s 99 0],.tup [],uF (([bt 5 g true]++[bt 4 0 true])++[bt 5 s.count true])⟩] rfl ?_ ?_
                 ·have hq:=uD ([bt 5 g true]++[bt 4 0 true]) 5 s.count true (by simp) (by omega) (by omega);have ha1:=ho1 ([bt 5 g true]++[bt 4 0 true])
                  have ha2:=ho2 (([bt 5 g true]++[bt 4 0 true])++[bt 5 s.count true]);exact au
                 refine ⟨([bt 5 g true]++[bt 4 0 true])++[bt 5 s.count true],?_,?_⟩
                 ·simp [qQ,e,hct]
                 ·refine em [] trivial ⟨cq,tt⟩ ⟨obs rfl,bM (bD _) rfl rfl rfl rfl rfl (fun q hq=>fP _ _),tt⟩
                ·have hct:¬ s.count<6:=by simpa using h34
                 refine sk ?_;refine ⟨[bt 5 g true]++[bt 4 0 true],?_,?_⟩
                 ·simp [qQ,e,hct]
                 ·refine em [] trivial ⟨cq,tt⟩ ⟨obs rfl,bM (bD _) rfl rfl rfl rfl rfl (fun q hq=>fP _ _),tt⟩
               ·have e62:(atI p s g).op≠62:=by simpa using h32
                refine sg rfl ?_;refine cd rfl (fun h36=>?_) (fun h36=>?_)
                ·have e:(atI p s g).op=63:=by simpa using h36
                 have hja:=hat.join (.inl e);refine sq (rgs [⟨true,[.s 7 0,.s 99 0],.tup [],uF ([bt 5 g true]++[bt 4 0 false])⟩] rfl ?_ ?_)
                 ·have hq:=hg0 4 0 false (by omega) (by omega);have z0:=ho1 [bt 5 g true];have z1:=ho2 ([bt 5 g true]++[bt 4 0 false]);exact au
                 refine sq (drs [] rfl ?_ ?_)
                 ·simp [-List.getD_eq_getElem?_getD,aj,under];omega
                 refine sq (rgs [CG.pure (.bool (kU s g (dY (goI s g) (atI p s g).a)))] rfl ?_ ?_)
                 ·have hq:=xO s g (dY (goI s g) (atI p s g).a);exact au
                 refine cd rfl (fun h39=>?_) (fun h39=>?_)
                 ·have hth:0≤dY (goI s g) (atI p s g).a∧dY (goI s g) (atI p s g).a<8:=by simp only [kU,decide_eq_true_eq]at h39;omega
                  refine WP.ent (st':=aP [(12,.int (dY (goI s g) (atI p s g).a)),(7,.ptr (.s 7 0) 1 0 []),(8,.clo 219 [.ptr (.s 7 0) 1 0 []])] [(.s 7 0,.cells ⟨195,1,fun _ => .own (.s 99 0) 2 0 2 none,0⟩),(.s 99 0,bJ 134 dJ bt0 ([bt 5 g true]++[bt 4 0 false]))]) ?_ ?_
                  ·refine em [] trivial ⟨cq,cq,cq,tt⟩ ⟨obs rfl,bM (bD _) rfl rfl rfl rfl rfl (fun q hq=>fP _ _),tt⟩
                  refine rgs [⟨true,[.s 7 0,.s 99 0],.tup [],uF (([bt 5 g true]++[bt 4 0 false])++[bt 5 (dY (goI s g) (atI p s g).a) false])⟩] rfl ?_ ?_
                  ·have ew:IntKind.i64.wrap (dY (goI s g) (atI p s g).a)=dY (goI s g) (atI p s g).a:=cu (by omega) (by omega);have hq:=uD ([bt 5 g true]++[bt 4 0 false]) 5 (dY (goI s g) (atI p s g).a) false (by simp) (by omega) (by omega)
                   have ha1:=ho1 ([bt 5 g true]++[bt 4 0 false]);have ha2:=ho2 (([bt 5 g true]++[bt 4 0 false])++[bt 5 (dY (goI s g) (atI p s g).a) false])
                   simp only [ew];exact au
                  refine ⟨([bt 5 g true]++[bt 4 0 false])++[bt 5 (dY (goI s g) (atI p s g).a) false],?_,?_⟩
                  ·simp [-List.getD_eq_getElem?_getD,qQ,e,h39]
                  ·refine em [] trivial ⟨cq,tt⟩ ⟨obs rfl,bM (bD _) rfl rfl rfl rfl rfl (fun q hq=>fP _ _),tt⟩
                 ·refine sk ?_;refine ⟨[bt 5 g true]++[bt 4 0 false],?_,?_⟩
                  ·simp [-List.getD_eq_getElem?_getD,qQ,e,h39]
                  ·refine em [] trivial ⟨cq,tt⟩ ⟨obs rfl,bM (bD _) rfl rfl rfl rfl rfl (fun q hq=>fP _ _),tt⟩
                ·have e63:(atI p s g).op≠63:=by simpa using h36
                 refine sg rfl ?_;refine cd rfl (fun h41=>?_) (fun h41=>?_)
                 ·have e:(atI p s g).op=65:=by simpa using h41
                  refine rgs [⟨true,[.s 7 0,.s 99 0],.tup [],uF ([bt 5 g true]++[bt 6 0 true])⟩] rfl ?_ ?_
                  ·have hq:=hg0 6 0 true (by omega) (by omega);have z0:=ho1 [bt 5 g true];have z1:=ho2 ([bt 5 g true]++[bt 6 0 true]);exact au
                  refine ⟨[bt 5 g true]++[bt 6 0 true],?_,?_⟩
                  ·simp [qQ,e]
                  ·refine em [] trivial ⟨cq,tt⟩ ⟨obs rfl,bM (bD _) rfl rfl rfl rfl rfl (fun q hq=>fP _ _),tt⟩
                 ·have e65:(atI p s g).op≠65:=by simpa using h41
                  refine sk ?_;refine ⟨[bt 5 g true],?_,?_⟩
                  ·simp [qQ,e50,e54,e51,e52,e53,e55,e56,e57,e58,e60,e66,e59,e61,e62,e63,e65]
                  ·refine em [] trivial ⟨cq,tt⟩ ⟨obs rfl,bM (bD _) rfl rfl rfl rfl rfl (fun q hq=>rfl),tt⟩
 ·rintro l hl;refine sq ?_;have hrl:l.length≤5:=by rw [hl];exact D7 h
  refine rgs [⟨true,[.s 99 0],.tup [],[rE (gY l)]⟩] rfl ?_ ?_
  ·have hq:=Gt l (by omega);have hk1:lg [.s 99 0] [bJ 134 dJ bt0 l]:=⟨fun _ _=>rfl,tt⟩
   have hk2:lg (bs 1) [rE (gY l)]:=⟨fun _ _=>rfl,tt⟩;exact au
  refine sq ?_;have hsl:(gY l).length=l.length:=qO NS l
  refine WP.ent (st':=aP [(7,.ptr (.s 7 0) 1 0 [])] [(.s 7 0,.cells ⟨195,1,fun _ => .own (.s 99 0) (gY l).length 0 (gY l).length none,0⟩),(.s 99 0,bJ 134 dJ bt0 (gY l))]) ?_ ?_
  ·refine em [] trivial ⟨cq,tt⟩ ⟨obs rfl (hg:=q0 (ah (by rw [hsl]))),bM (bD _) rfl rfl rfl rfl rfl (fun q hq=>fP _ _),tt⟩
  refine rgs [⟨true,[.s 99 0],.own (.b 0) (gY l).length 0 (dd bt0 (gY l) (gY l).length).length none,[ddO (gY l)]⟩] rfl ?_ ?_
  ·have hq:=Bv (gY l);have hk1:lg [.s 99 0] [bJ 134 dJ bt0 (gY l)]:=⟨fun _ _=>rfl,tt⟩
   have hk2:lg (bs 1) [ddO (gY l)]:=⟨QJ _ _,tt⟩;exact au
  refine WP.ret ?_;change Fin ..;have hdl:=Jv bt0 (gY l) (gY l).length
  refine aH hT [(.s 99 0,(gY l).length)] (ts:=[(6,rowP 134 dJ bt0 (eU p s g))]) (l:=[rowP 134 dJ bt0 (eU p s g)]) ⟨⟨_,rfl,Nat.le_refl _⟩,tt⟩ ⟨⟨rfl,_,rfl,?_⟩,tt⟩ trivial rfl rfl rfl;rw [eU,← hl];refine jm rfl rfl rfl (fun h=>by cases h) (by simp [eH,aN];exact hdl) (fun q hq=>?_);show dw (ren _ (bif Nat.blt (0+q) _ then _ else _))=true∧AEq (ren _ (bif Nat.blt (0+q) _ then _ else _)) _
  rw [Nat.zero_add,kT hq,fP];exact ⟨rfl,AEq.refl _⟩
structure bI where
 go:Int
 alt:Int
 deriving DecidableEq
def dN:bI:=⟨0,0⟩
def aO (x:bI):AV:=bG 122 [.int x.go,.int x.alt]
theorem lq (ids:List Id) (x:bI):dM ids (aO x)=true:=rfl
def qG (p:ay) (s:PSt):Int:=if fE p=false then 3 else if ¬ jf p s then 4 else 0
theorem yY (p:ay) (s:PSt) (ho:OkS s):AC Tryz.prog T aV 114 [aC p,encS s] [] (.int (qG p s)) []:=by
 refine aA hT Tryz.func114 rfl rfl (Nat.le_of_ble_eq_true rfl) ?_;refine sg rfl ?_;refine sq (sq ?_);refine WP.ent (st':=aP [(2,.rp 26 (aC p)),(3,.rp 62 (encS s))] []) (em [(.s 2 0,1),(.s 3 0,1)] ⟨sF,sF,tt⟩ ⟨rq,rq,tt⟩ trivial) ?_;refine rgs [CG.pure (xG p)] rfl ?_ ?_
 ·have hq:=uJ p;exact au
 refine sg rfl ?_;refine cd rfl (fun h2=>?_) (fun h2=>?_)
 ·have hr:fE p=false:=by simp at h2;simp [fE];exact h2
  refine sg rfl ?_;exact WP.ret (dQ hT (by rfl) (by rw [qG,if_pos hr]))
 ·have hr:¬ fE p=false:=by simp at h2;simp [fE];exact h2
  refine sk (sq (sq (rgs [CG.pure (.bool (decide (jf p s)))] rfl ?_ ?_)))
  ·have hq:=DI p s ho;exact au
  refine cd rfl (fun h4=>?_) (fun h4=>?_)
  ·have hv:¬ jf p s:=by simpa using h4
   refine sg rfl ?_;exact WP.ret (dQ hT (by rfl) (by rw [qG,if_neg hr,if_pos hv]))
  ·have hv:¬ ¬ jf p s:=by simpa using h4
   refine sk (sq (rg [] rfl ?_));exact WP.ret (dQ hT (by rfl) (by rw [qG,if_neg hr,if_neg hv]))
theorem Rz {p:ay} {s:PSt} (h:qG p s=0):jf p s:=by
 unfold qG at h;split at h
 ·cases h
 ·split at h
  ·cases h
  ·rename_i h1 h2;simpa using h2
def vZ (p:ay) (s:PSt) (g:Int):List bI:=(lI p s g).map fun a=>⟨g,a⟩
def aS (p:ay) (s:PSt):List bI:=if qG p s=0 then (fJ s).flatMap (vZ p s)else []
theorem zA {p:ay} {s:PSt} (ho:OkS s) (hv:jf p s) {g:Int} (h:g∈fJ s):eX p s g:=by
 obtain ⟨j,h1,h2,h3⟩:=oG.1 h;exact ⟨ho,hv,by rw [goI,h2];exact h3,by omega⟩
def lS (p:ay) (s:PSt) (i j:Nat):List bI:=((fJ s).take i).flatMap (vZ p s)++(vZ p s ((fJ s).getD i 0)).take j
theorem Jh {α β:Type} {f:α→List β} {n:Nat}:∀ {l:List α},(∀ x∈l,(f x).length≤n)→(l.flatMap f).length≤n*l.length
 | [],_=>by simp
 | x::r,h=>by
  have h1:=h x (by simp);have h2:=Jh (l:=r) (fun y hy=>h y (by simp [hy]))
  rw [List.flatMap_cons,List.length_append,List.length_cons,Nat.mul_succ];omega
theorem Ic {p:ay} {s:PSt} (ho:OkS s) (hv:jf p s) (i j:Nat):(lS p s i j).length≤30+j:=by
 have h1:(((fJ s).take i).flatMap (vZ p s)).length≤5*((fJ s).take i).length:=Jh fun x hx=>by
  rw [vZ,List.length_map];exact E5 (zA ho hv (List.mem_of_mem_take hx))
 have h2:(fJ s).length≤6:=oH s 6;have h3:((fJ s).take i).length≤(fJ s).length:=by rw [List.length_take];omega
 rw [lS,List.length_append,List.length_take];omega
theorem Og {p:ay} {s:PSt} {x:Int} {j:Nat} (hj:j<(lI p s x).length):(vZ p s x)[j]? = some ⟨x,(lI p s x).getD j 0⟩:=by simp [vZ,hj]
theorem FI {p:ay} {s:PSt} {i j:Nat} (hj:j<(lI p s ((fJ s).getD i 0)).length):lS p s i j++[⟨(fJ s).getD i 0,(lI p s ((fJ s).getD i 0)).getD j 0⟩]=lS p s i (j+1):=by
 rw [lS,lS,List.append_assoc,List.take_add_one (l:=vZ p s ((fJ s).getD i 0)),Og hj];rfl
theorem FK {p:ay} {s:PSt} {i:Nat} (hi:i<(fJ s).length):lS p s i (lI p s ((fJ s).getD i 0)).length=lS p s (i+1) 0:=by
 rw [lS,lS,List.take_of_length_le (l:=vZ p s ((fJ s).getD i 0)) (by simp [vZ]),List.take_add_one (l:=fJ s),List.getElem?_eq_getElem hi,List.flatMap_append];simp [hi]
abbrev eG (l:List bI):AV:=rowP 122 aO dN l
theorem zN (p:ay) (s:PSt) (ho:OkS s):AC Tryz.prog T aV 69 [aC p,encS s] [] (.tup [eG (aS p s),.int (qG p s)]) []:=by
 refine aA hT Tryz.func69 rfl rfl (Nat.le_of_ble_eq_true rfl) ?_;refine sg rfl ?_;refine sq (sq ?_);refine WP.ent (st':=aP [(2,.rp 26 (aC p)),(3,.rp 62 (encS s))] []) (em [(.s 2 0,1),(.s 3 0,1)] ⟨sF,sF,tt⟩ ⟨rq,rq,tt⟩ trivial) ?_;refine rgs [CG.pure (.int (qG p s))] rfl ?_ ?_
 ·have hq:=yY p s ho;exact au
 refine sg rfl ?_;refine cd rfl (fun h2=>?_) (fun h2=>?_)
 ·have ha:qG p s≠0:=by simpa using h2
  refine sg rfl ?_;refine WP.ret ?_;change Fin ..;refine aH hT [] (ts:=[(4,eG (aS p s)),(5,.int (qG p s))]) (l:=[eG (aS p s),.int (qG p s)]) trivial ⟨⟨rfl,_,rfl,?_⟩,cq,tt⟩ trivial rfl rfl rfl;rw [aS,if_neg ha];exact dX (by decide)
 ·have ha:qG p s=0:=by simpa using h2
  have hv:=Rz ha;refine sk (sq (rg [] rfl ?_));refine sq (sq (rgs [CG.pure (ints false (fJ s))] rfl ?_ ?_))
  ·have hq:=Oz s;exact au
  refine bk ?_;refine WP.loop (α:=Nat) (fun i=>aP [(2,.rp 26 (aC p)),(3,.rp 62 (encS s)),(7,.own (.s 39 0) (lS p s i 0).length 0 (lS p s i 0).length none),(19,ints false (fJ s)),(20,.int (fJ s).length),(21,.int i)] [(.s 39 0,bJ 122 aO dN (lS p s i 0))]) (fun i=>i≤(fJ s).length) (fun i=>(fJ s).length - i) ?_ ?_
  ·refine ⟨0,?_,?_⟩
   ·exact Nat.zero_le _
   ·refine em [] trivial ⟨cq,cq,⟨rfl,_,rfl,jc⟩,cq,cq,cq,tt⟩ ⟨⟨fun _ _=>rfl,.inr ⟨rfl,122,_,rfl,by decide⟩⟩,tt⟩
  ·rintro i hi;refine sg rfl ?_;refine sq ?_;refine cd rfl (fun h6=>?_) (fun h6=>?_)
   ·have hil:i<(fJ s).length:=by simp [-List.getD_eq_getElem?_getD]at h6;omega
    have hst:eX p s ((fJ s).getD i 0):=zA ho hv (by rw [List.getD_eq_getElem?_getD,List.getElem?_eq_getElem hil];exact List.getElem_mem _);have hl6:(fJ s).length≤6:=oH s 6
    refine sk (sq (bk (sq (rgs [] rfl ?_ ?_))))
    ·simp [-List.getD_eq_getElem?_getD,aj,under];omega
    refine sq (rgs [CG.pure (ints false (lI p s ((fJ s).getD i 0)))] rfl ?_ ?_)
    ·have hq:=JK p s _ hst;exact au
    refine bk ?_;refine WP.loop (α:=Nat) (fun j=>aP [(2,.rp 26 (aC p)),(3,.rp 62 (encS s)),(7,.own (.s 39 0) (lS p s i j).length 0 (lS p s i j).length none),(9,.int ((fJ s).getD i 0)),(19,ints false (fJ s)),(20,.int (fJ s).length),(21,.int i),(28,ints false (lI p s ((fJ s).getD i 0))),(29,.int (lI p s ((fJ s).getD i 0)).length),(30,.int j)] [(.s 39 0,bJ 122 aO dN (lS p s i j))]) (fun j=>j≤(lI p s ((fJ s).getD i 0)).length) (fun j=>(lI p s ((fJ s).getD i 0)).length - j) ?_ ?_
    ·refine ⟨0,?_,?_⟩
     ·exact Nat.zero_le _
     ·refine em [] trivial ⟨cq,cq,cq,cq,cq,cq,cq,cq,cq,cq,tt⟩ ⟨bM (lq _) rfl rfl rfl rfl rfl (fun q hq=>rfl),tt⟩
    ·rintro j hj;refine sg rfl ?_;refine sq ?_;refine cd rfl (fun h9=>?_) (fun h9=>?_)
     ·have hjl:j<(lI p s ((fJ s).getD i 0)).length:=by simp [-List.getD_eq_getElem?_getD]at h9;omega
      have hl5:=E5 hst;have hrl:=Ic ho hv i j
      refine sk (sq (bk (sq (rgs [] rfl ?_ ?_))))
      ·simp [-List.getD_eq_getElem?_getD,aj,under];omega
      refine rgs [] rfl ?_ ?_
      ·have hbt:(T 122).bytes=16:=rfl;simp [aj,under,hbt];omega
      refine rg [] rfl ?_;have hsn:=FI hjl
      refine ⟨j+1,?_,?_,?_⟩
      ·exact hjl
      ·refine em [] trivial ⟨cq,cq,⟨rfl,_,rfl,ah (by rw [← hsn,fK])⟩,cq,cq,cq,cq,cq,cq,cq,tt⟩ ⟨bM (lq _) rfl rfl (by rw [← hsn,fK]) rfl rfl (by rw [← hsn];exact QV (z:=(T 122).zero) rfl (aW (fun q=>by match q with | 0 | 1 | q+2=>rfl)) (fun q hq=>rfl)),tt⟩
      ·(try simp only []);first | omega | grind
     ·have hjl:j=(lI p s ((fJ s).getD i 0)).length:=by simp [-List.getD_eq_getElem?_getD]at h9;omega
      subst hjl;refine xt (rg [] rfl ?_);have hnx:=FK (p:=p) hil
      refine ⟨i+1,?_,?_,?_⟩
      ·exact hil
      ·refine em [] trivial ⟨cq,cq,⟨rfl,_,rfl,ah (by rw [hnx])⟩,cq,cq,cq,tt⟩ ⟨bM (lq _) rfl rfl (by rw [hnx]) rfl rfl (fun q hq=>by rw [← hnx]),tt⟩
      ·(try simp only []);first | omega | grind
   ·have hil:i=(fJ s).length:=by simp [-List.getD_eq_getElem?_getD]at h6;omega
    have e:lS p s i 0=aS p s:=by rw [lS,hil,List.take_length,List.take_zero,List.append_nil,aS,if_pos ha]
    refine xt (sq (rg [] rfl ?_));refine WP.ret ?_;change Fin ..;refine aH hT [(.s 39 0,(lS p s i 0).length)] (ts:=[(4,eG (aS p s)),(5,.int (qG p s))]) (l:=[eG (aS p s),.int (qG p s)]) ⟨⟨_,rfl,Nat.le_refl _⟩,tt⟩ ⟨⟨rfl,_,rfl,?_⟩,⟨rfl,_,rfl,ah (by rw [ha])⟩,tt⟩ trivial rfl rfl rfl;rw [← e];exact jm rfl rfl rfl (fun h=>by cases h) (by simp [eH,aN]) (fun q hq=>by rw [Nat.zero_add];exact ⟨rfl,AEq.refl _⟩)
structure PM where
 s:PSt
 g:Int
 fuel:Int
 val:Int
 over:Bool
def gG (p:ay) (m:PM):AV:=bG 263 [aC p,encS m.s,.int m.g,.int m.fuel,.int m.val,.bool m.over]
abbrev mO (p:ay) (m:PM):Ob := .cells ⟨263,1,fun _=>gG p m,0⟩
theorem sS (σ:Id→Id) (p:ay):ren σ (aC p)=aC p:=aW (fun q=>by match q with | 0 | 1 | 2 | 3 | q+4=>rfl)
theorem Qc (σ:Id→Id) (g:PGo):ren σ (bH g)=bH g:=aW (fun q=>by match q with | 0 | 1 | 2 | 3 | 4 | q+5=>rfl)
theorem Qd (σ:Id→Id) (c:jw):ren σ (fM c)=fM c:=aW (fun q=>by match q with | 0 | 1 | 2 | 3 | 4 | 5 | q+6=>rfl)
theorem KC (σ:Id→Id) (s:PSt):ren σ (encS s)=encS s:=aW (fun q=>by
 match q with
 | 0 | 1 | 4 | q+5=>rfl
 | 2=>exact aW fun i=>Qd σ _
 | 3=>exact aW fun i=>Qc σ _)
theorem fB (σ:Id→Id) (p:ay) (m:PM):ren σ (gG p m)=gG p m:=aW (fun q=>by
 match q with
 | 0=>exact sS σ p
 | 1=>exact KC σ _
 | 2 | 3 | 4 | 5 | q+6=>rfl)
theorem jy (σ:Id→Id) (p:ay) (m:PM):List.map (iG σ) [mO p m]=[mO p m]:=by
 show [Ob.cells ⟨_,_,fun _=>ren σ (gG p m),_⟩]=_;rw [fB]
theorem aK (ids:List Id) (p:ay) (m:PM):lg ids [mO p m]:=⟨fun _ _=>rfl,tt⟩
theorem uG {p:ay} {m:PM} {q:List Nat} {y:AV} {s:PSt} (e:(encS m.s).put q y=encS s):(gG p m).put (1::q) y=gG p { m with s:=s}:=(aT (Nat.le_of_ble_eq_true rfl)).trans (congrArg (fun z=>bG 263 [aC p,z,.int m.g,.int m.fuel,.int m.val,.bool m.over]) e)
theorem gW (p:ay) (m:PM) (x:Int):(gG p m).put [4] (.int x)=gG p { m with val:=x}:=aT (Nat.le_of_ble_eq_true rfl)
theorem qh (p:ay) (m:PM) (x:Bool):(gG p m).put [5] (.bool x)=gG p { m with over:=x}:=aT (Nat.le_of_ble_eq_true rfl)
abbrev bf (m:PM):PGo:=goI m.s m.g
abbrev gB (m:PM) (x:PGo):PM:={ m with s:={ m.s with gos:=m.s.gos.set m.g.toNat x} }
abbrev bW (m:PM) (c:Int) (x:jw):PM:={ m with s:={ m.s with chans:=m.s.chans.set c.toNat x} }
structure OkM (m:PM):Prop where
 s:OkS m.s
 g:0≤m.g∧m.g<6
theorem OkS.gB {s:PSt} (h:OkS s) {k:Nat} {x:PGo} (hx:KR x):OkS { s with gos:=s.gos.set k x}:=⟨h.vars,h.owner,h.chans,by show (s.gos.set k x).length=6;rw [List.length_set];exact h.gos,h.ch,fun g hg=>by
 rcases List.mem_or_eq_of_mem_set hg with h1 | h1
 ·exact h.go g h1
 ·rw [h1];exact hx⟩
theorem OkS.bW {s:PSt} (h:OkS s) {k:Nat} {x:jw} (hx:Nr x):OkS { s with chans:=s.chans.set k x}:=⟨h.vars,h.owner,by show (s.chans.set k x).length=4;rw [List.length_set];exact h.chans,h.gos,fun c hc=>by
 rcases List.mem_or_eq_of_mem_set hc with h1 | h1
 ·exact h.ch c h1
 ·rw [h1];exact hx,h.go⟩
theorem OkS.setVar {s:PSt} (h:OkS s) (k:Nat) (x:Int):OkS { s with vars:=s.vars.set k x}:=⟨by show (s.vars.set k x).length=8;rw [List.length_set];exact h.vars,h.owner,h.chans,h.gos,h.ch,h.go⟩
theorem OkS.setOwn {s:PSt} (h:OkS s) (k:Nat) (x:Int):OkS { s with owner:=s.owner.set k x}:=⟨h.vars,by show (s.owner.set k x).length=4;rw [List.length_set];exact h.owner,h.chans,h.gos,h.ch,h.go⟩
theorem D9 {p:ay} {m:PM} {q:List Nat} {y:AV} {x:PGo} (h:m.g.toNat<m.s.gos.length) (e:(bH (bf m)).put q y=bH x):(gG p m).put (1::3::m.g.toNat::q) y=gG p (gB m x):=uG (yh h e)
theorem jl {p:ay} {m:PM} {c:Int} {q:List Nat} {y:AV} {x:jw} (h:c.toNat<m.s.chans.length) (e:(fM (chI m.s c)).put q y=fM x):(gG p m).put (1::2::c.toNat::q) y=gG p (bW m c x):=uG (Oa h e)
theorem uH {p:ay} {m:PM} {q:List Nat} {y:AV} {x:PGo} (h:OkM m) (e:(bH (bf m)).put q y=bH x):(gG p m).put (1::3::m.g.toNat::q) y=gG p (gB m x):=D9 (by rw [h.s.gos];have:=h.g;omega) e
theorem Oc {p:ay} {m:PM} {c:Int} {q:List Nat} {y:AV} {x:jw} (h:OkM m) (hc:0≤c∧c<4) (e:(fM (chI m.s c)).put q y=fM x):(gG p m).put (1::2::c.toNat::q) y=gG p (bW m c x):=jl (by rw [h.s.chans];omega) e
theorem gX {s:PSt} {c:Int} {x:jw} (hl:c.toNat<s.chans.length):chI { s with chans:=s.chans.set c.toNat x} c=x:=by
 show (s.chans.set c.toNat x).getD c.toNat ch0=x;simp [hl]
theorem pX {m:PM} {c:Int} (x y:jw):bW (bW m c x) c y=bW m c y:=by simp [bW]
theorem sU {p:ay} {m:PM} {c:Int} {q q':List Nat} {y y':AV} {x x':jw} (h:c.toNat<m.s.chans.length) (e:(fM (chI m.s c)).put q y=fM x) (e':(fM x).put q' y'=fM x'):((gG p m).put (1::2::c.toNat::q) y).put (1::2::c.toNat::q') y'=gG p (bW m c x'):=by
 rw [jl h e,jl (m:=bW m c x) (x:=x') (by show c.toNat<(m.s.chans.set _ _).length;rw [List.length_set];exact h) (by rw [gX h];exact e'),pX]
theorem Ea {p:ay} {m:PM} {c:Int} {q q' q2:List Nat} {y y' y2:AV} {x x' x2:jw} (h:c.toNat<m.s.chans.length) (e:(fM (chI m.s c)).put q y=fM x) (e':(fM x).put q' y'=fM x') (e2:(fM x').put q2 y2=fM x2):(((gG p m).put (1::2::c.toNat::q) y).put (1::2::c.toNat::q') y').put (1::2::c.toNat::q2) y2=gG p (bW m c x2):=by
 rw [sU h e e',jl (m:=bW m c x') (x:=x2) (by show c.toNat<(m.s.chans.set _ _).length;rw [List.length_set];exact h) (by rw [gX h];exact e2),pX]
abbrev nK (m:PM):AV := .ptr (.b 0) 1 0 [1,3,m.g.toNat]
theorem Il (p:ay) (m:PM) (hg:0≤m.g∧m.g<6):AC Tryz.prog T aV 162 [.ptr (.b 0) 1 0 []] [mO p m] (nK m) [mO p m]:=by
 refine aA hT Tryz.func162 rfl rfl (Nat.le_of_ble_eq_true rfl) ?_;refine sg rfl ?_;refine sq (drs [] rfl ?_ ?_)
 ·simp [-List.getD_eq_getElem?_getD,aj,under];omega
 exact WP.ret (aH hT [] (ts:=[(2,nK m)]) (l:=[nK m]) trivial ⟨cq,tt⟩ ⟨obs rfl,tt⟩ rfl rfl rfl)
theorem lU (p:ay) (m:PM) (hg:0≤m.g∧m.g<6):AC Tryz.prog T aV 162 [.ptr (.b 0) 1 0 []] (List.map (iG (sig [.b 0] 0)) [mO p m]) (nK m) [mO p m]:=by rw [jy];exact Il p m hg
def dO (m:PM) (r x:Int):PM:=if 0≤r then gB m (P8 (bf m) r x)else m
theorem lV {m:PM} (h:OkM m) (r x:Int):OkM (dO m r x):=by
 unfold dO;split
 ·exact ⟨h.s.gB (by show ((bf m).regs.set _ _).length=8;rw [List.length_set];exact jB h.s _),h.g⟩
 ·exact h
theorem Ox (p:ay) (m:PM) (r x:Int) (h:OkM m) (hr:r<8):AC Tryz.prog T aV 227 [.ptr (.b 0) 1 0 [],.int r,.int x] [mO p m] (.tup []) [mO p (dO m r x)]:=by
 refine aA hT Tryz.func227 rfl rfl (Nat.le_of_ble_eq_true rfl) ?_;refine sg rfl ?_;refine cd rfl (fun h0=>?_) (fun h0=>?_)
 ·have h0':0≤r:=by simpa using h0
  have h8:(bf m).regs.length=8:=jB h.s _;refine rgs [⟨true,[.b 0],nK m,[mO p m]⟩] rfl ?_ ?_
  ·have hq:=lU p m h.g;have hk1:=aK [.b 0] p m
   have hk2:=aK (bs 1) p m;exact au
  change Fin ..
  first
  | (
   refine aH hT [] (ts:=[]) (l:=[]) trivial trivial ⟨obs rfl (hg:=q0 (ah ?_)),tt⟩ rfl rfl rfl;show (ren _ (gG p m)).put _ _=_
   rw [fB,dO,if_pos h0'];exact uH h (kY x (by omega)))
  | (
   have e:dO m r x=m:=by rw [dO,if_neg (by simp at h0;omega)]
   rw [e];exact aH hT [] (ts:=[]) (l:=[]) trivial trivial ⟨obs rfl,tt⟩ rfl rfl rfl)
 ·refine sk ?_;change Fin ..
  first
  | (
   refine aH hT [] (ts:=[]) (l:=[]) trivial trivial ⟨obs rfl (hg:=q0 (ah ?_)),tt⟩ rfl rfl rfl;show (ren _ (gG p m)).put _ _=_
   rw [fB,dO,if_pos h0'];exact uH h (kY x (by omega)))
  | (
   have e:dO m r x=m:=by rw [dO,if_neg (by simp at h0;omega)]
   rw [e];exact aH hT [] (ts:=[]) (l:=[]) trivial trivial ⟨obs rfl,tt⟩ rfl rfl rfl)
theorem jF (p:ay) (m:PM) (r x:Int) (h:OkM m) (hr:r<8):AC Tryz.prog T aV 227 [.ptr (.b 0) 1 0 [],.int r,.int x] (List.map (iG (sig [.b 0] 0)) [mO p m]) (.tup []) [mO p (dO m r x)]:=by rw [jy];exact Ox p m r x h hr
def jP (m:PM) (why:Int):PM:={ gB m (Di (bf m) 4 why)with val:=0,over:=true}
theorem oC {m:PM} (h:OkM m) (why:Int):OkM (jP m why):=⟨h.s.gB rfl,h.g⟩
theorem QA (g:PGo) (why:Int):((((T 59).zero.put [0] (.int 4)).put [1] (.int g.func)).put [2] (.int g.pc)).put [3] (.int why)=bH (Di g 4 why):=by
 rw [DF,fQ,show (bH { go0 with status:=4}).put [1] (.int g.func)=bH { go0 with status:=4,func:=g.func}from aT (Nat.le_of_ble_eq_true rfl),oz,zO];rfl
theorem OW (p:ay) (m:PM) (why:Int) (h:OkM m):AC Tryz.prog T aV 233 [.ptr (.b 0) 1 0 [],.int why] [mO p m] (.tup []) [mO p (jP m why)]:=by
 refine aA hT Tryz.func233 rfl rfl (Nat.le_of_ble_eq_true rfl) ?_;refine sq (rgs [⟨true,[.b 0],nK m,[mO p m]⟩] rfl ?_ ?_)
 ·have hq:=lU p m h.g;have hk1:=aK [.b 0] p m
  have hk2:=aK (bs 1) p m;exact au
 refine sq ?_;refine WP.ent (st':=aP [(0,.ptr (.b 0) 1 0 []),(1,.int why),(4,nK m)] [(.b 0,mO p m)]) ?_ ?_
 ·refine em [] trivial ⟨cq,cq,cq,tt⟩ ⟨obs rfl (hg:=q0 (ah (fB _ _ _))),tt⟩
 refine dr [] rfl ?_;refine WP.ent (st':=aP [(0,.ptr (.b 0) 1 0 [])] [(.b 0,mO p (gB m (Di (bf m) 4 why)))]) ?_ ?_
 ·refine em [] trivial ⟨cq,tt⟩ ⟨obs rfl (hg:=q0 (ah (uH h (by rw [← QA];rfl)))),tt⟩
 refine rg [] rfl ?_;change Fin ..;refine aH hT [] (ts:=[]) (l:=[]) trivial trivial ⟨obs rfl (hg:=q0 (ah ?_)),tt⟩ rfl rfl rfl;exact (congrArg (fun z=>AV.put z [5] (.bool true)) (gW p (gB m (Di (bf m) 4 why)) 0)).trans (qh p { gB m (Di (bf m) 4 why)with val:=0} true)
theorem oJ (p:ay) (m:PM) (why:Int) (h:OkM m):AC Tryz.prog T aV 233 [.ptr (.b 0) 1 0 [],.int why] (List.map (iG (sig [.b 0] 0)) [mO p m]) (.tup []) [mO p (jP m why)]:=by rw [jy];exact OW p m why h
def dA (p:ay) (m:PM) (g:Int):PM:={ m with s:=(fU p m.s g m.fuel).1}
theorem wX (p:ay) (m:PM) (g:Int) (h:OkS m.s):AC Tryz.prog T aV 163 [.ptr (.b 0) 1 0 [],.int g] [mO p m] (.tup []) [mO p (dA p m g)]:=by
 refine aA hT Tryz.func163 rfl rfl (Nat.le_of_ble_eq_true rfl) ?_;refine drs [CG.pure (.tup [encS (fU p m.s g m.fuel).1,.int (fU p m.s g m.fuel).2])] rfl ?_ ?_
 ·have hq:=Hw p m.s g m.fuel h;exact au
 change Fin ..;exact aH hT [] (ts:=[]) (l:=[]) trivial trivial ⟨obs rfl (hg:=q0 (ah (uG (Sj _ _)))),tt⟩ rfl rfl rfl
abbrev chM (c:Int):AV := .ptr (.b 0) 1 0 [1,2,c.toNat]
theorem dD {m:PM} (h:OkM m) (x:Int):OkM { m with val:=x}:=⟨h.s,h.g⟩
theorem KQ {m:PM} (h:OkM m) (x:Bool):OkM { m with over:=x}:=⟨h.s,h.g⟩
theorem Nq {m:PM} (h:OkM m) {x:PGo} (hx:KR x):OkM (gB m x):=⟨h.s.gB hx,h.g⟩
theorem qo {m:PM} (h:OkM m) (c:Int) {x:jw} (hx:Nr x):OkM (bW m c x):=⟨h.s.bW hx,h.g⟩
abbrev kN (x:jw) (k v:Int):jw:={ x with buf:=x.buf.set k.toNat v}
def kP (p:ay) (m:PM) (c x:Int):PM :=
 if (chI m.s c).closed=true then jP { m with val:=x} 4 else
 if 0<p.chans.getD c.toNat 0 then bW { m with val:=x} c { kN (chI m.s c) (chI m.s c).len x with len:=(chI m.s c).len+1}else
 { gB (bW { m with val:=x} c { chI m.s c with offer:=1,frm:=m.g,val:=x}) { bf m with status:=2}with over:=true}
theorem Ee {p:ay} {m:PM} (h:OkM m) (c x:Int):OkM (kP p m c x):=by
 have hb:(chI m.s c).buf.length=4:=lW h.s _;unfold kP;split
 ·exact oC (dD h x) 4
 ·split
  ·exact qo (dD h x) c (by show ((chI m.s c).buf.set _ _).length=4;rw [List.length_set];exact hb)
  ·exact KQ (Nq (qo (dD h x) c (x:={ chI m.s c with offer:=1,frm:=m.g,val:=x}) hb) (x:={ bf m with status:=2}) (jB h.s _)) true
theorem Lc (p:ay) (m:PM) (c x:Int) (h:OkM m) (hc:eP c p.chans.length) (hp:wG p) (hs:ng p m.s c=true) (hlen:0≤(chI m.s c).len):AC Tryz.prog T aV 225 [.ptr (.b 0) 1 0 [],.int c,.int x] [mO p m] (.tup []) [mO p (kP p m c x)]:=by
 refine aA hT Tryz.func225 rfl rfl (Nat.le_of_ble_eq_true rfl) ?_;have hc4:=hp.chans
 have hcap:p.chans.getD c.toNat 0≤4:=(hp.caps _ (by unfold eP at hc;rw [List.getD_eq_getElem?_getD,List.getElem?_eq_getElem (show c.toNat<p.chans.length by omega)];exact List.getElem_mem _)).2;unfold eP at hc;have hcc:0≤c∧c<4:=by omega
 have hb:(chI m.s c).buf.length=4:=lW h.s _;refine sq (rgs [] rfl ?_ ?_)
 ·simp [-List.getD_eq_getElem?_getD,aj,under];omega
 refine sg rfl ?_;refine bk (sq ?_);refine WP.ent (st':=aP [(0,.ptr (.b 0) 1 0 []),(1,.int c),(2,.int x),(6,chM c)] [(.b 0,mO p { m with val:=x})]) ?_ ?_
 ·refine em [] trivial ⟨cq,cq,cq,cq,tt⟩ ⟨obs rfl (hg:=q0 (ah (gW _ _ _))),tt⟩
 refine rg [] rfl ?_;refine cd rfl (fun h5=>?_) (fun h5=>?_)
 ·have hcl:(chI m.s c).closed=true:=by simp [-List.getD_eq_getElem?_getD]at h5;exact h5
  refine rgs [⟨true,[.b 0],.tup [],[mO p (jP { m with val:=x} 4)]⟩] rfl ?_ ?_
  ·have hq:=oJ p { m with val:=x} 4 (dD h x);have hk1:=aK [.b 0] p { m with val:=x}
   have hk2:=aK (bs 1) p (jP { m with val:=x} 4);exact au
  change Fin ..
  first
  | (
   refine aH hT [] (ts:=[]) (l:=[]) trivial trivial ⟨obs rfl (hg:=q0 (ah ?_)),tt⟩ rfl rfl rfl;rw [kP,if_pos hcl];exact fB _ _ _)
  | (
   refine aH hT [] (ts:=[]) (l:=[]) trivial trivial ⟨obs rfl (hg:=q0 (ah ?_)),tt⟩ rfl rfl rfl;rw [kP,if_neg hcl,if_pos hpos];have hcl4:c.toNat<m.s.chans.length:=by rw [h.s.chans];omega
   have hz:IntKind.i64.wrap ((chI (bW { m with val:=x} c (kN (chI m.s c) (chI m.s c).len x)).s c).len+1)=(chI m.s c).len+1:=by
    rw [gX hcl4];exact cu (by show _≤(chI m.s c).len+1;omega) (by show (chI m.s c).len+1<_;omega)
   show (gG p (bW { m with val:=x} c (kN (chI m.s c) (chI m.s c).len x))).put [1,2,c.toNat,1] (AV.int (IntKind.i64.wrap ((chI (bW { m with val:=x} c (kN (chI m.s c) (chI m.s c).len x)).s c).len+1)))=_;rw [hz];refine (jl (m:=bW { m with val:=x} c (kN (chI m.s c) (chI m.s c).len x)) (by show c.toNat<(m.s.chans.set _ _).length;rw [List.length_set];exact hcl4) (by rw [gX hcl4];exact qj _ _)).trans ?_;rw [pX])
  | (
   refine aH hT [] (ts:=[]) (l:=[]) trivial trivial ⟨obs rfl (hg:=q0 (ah ?_)),tt⟩ rfl rfl rfl;rw [kP,if_neg hcl,if_neg hpos];exact qh _ _ _)
 ·have hcl:¬ (chI m.s c).closed=true:=by simp [-List.getD_eq_getElem?_getD]at h5;exact fun e=>absurd (h5.symm.trans e) (by decide)
  refine sq (rgs [] rfl ?_ ?_)
  ·simp [-List.getD_eq_getElem?_getD,aj,under];omega
  refine cd rfl (fun h7=>?_) (fun h7=>?_)
  ·have hpos:0<p.chans.getD c.toNat 0:=by simp [-List.getD_eq_getElem?_getD]at h7;omega
   have hll:(chI m.s c).len<p.chans.getD c.toNat 0:=by
    have:=hs;simp only [ng,Bool.or_eq_true,Bool.and_eq_true,decide_eq_true_eq,beq_iff_eq]at this;rcases this with (h1 | h1) | h1
    ·exact absurd h1 hcl
    ·exact h1.2
    ·omega
   refine sq (drs [] rfl ?_ ?_)
   ·simp only [chI]at hlen hll hb;simp [-List.getD_eq_getElem?_getD,aj,under];omega
   refine WP.ent (st':=aP [(6,chM c)] [(.b 0,mO p (bW { m with val:=x} c (kN (chI m.s c) (chI m.s c).len x)))]) ?_ ?_
   ·refine em [] trivial ⟨cq,tt⟩ ⟨obs rfl (hg:=q0 (ah (Oc (dD h x) hcc (zT x (by show (chI m.s c).len.toNat<(chI m.s c).buf.length;omega))))),tt⟩
   refine rg [] rfl ?_;change Fin ..
   first
   | (
    refine aH hT [] (ts:=[]) (l:=[]) trivial trivial ⟨obs rfl (hg:=q0 (ah ?_)),tt⟩ rfl rfl rfl;rw [kP,if_pos hcl];exact fB _ _ _)
   | (
    refine aH hT [] (ts:=[]) (l:=[]) trivial trivial ⟨obs rfl (hg:=q0 (ah ?_)),tt⟩ rfl rfl rfl;rw [kP,if_neg hcl,if_pos hpos];have hcl4:c.toNat<m.s.chans.length:=by rw [h.s.chans];omega
    have hz:IntKind.i64.wrap ((chI (bW { m with val:=x} c (kN (chI m.s c) (chI m.s c).len x)).s c).len+1)=(chI m.s c).len+1:=by
     rw [gX hcl4];exact cu (by show _≤(chI m.s c).len+1;omega) (by show (chI m.s c).len+1<_;omega)
    show (gG p (bW { m with val:=x} c (kN (chI m.s c) (chI m.s c).len x))).put [1,2,c.toNat,1] (AV.int (IntKind.i64.wrap ((chI (bW { m with val:=x} c (kN (chI m.s c) (chI m.s c).len x)).s c).len+1)))=_;rw [hz];refine (jl (m:=bW { m with val:=x} c (kN (chI m.s c) (chI m.s c).len x)) (by show c.toNat<(m.s.chans.set _ _).length;rw [List.length_set];exact hcl4) (by rw [gX hcl4];exact qj _ _)).trans ?_;rw [pX])
   | (
    refine aH hT [] (ts:=[]) (l:=[]) trivial trivial ⟨obs rfl (hg:=q0 (ah ?_)),tt⟩ rfl rfl rfl;rw [kP,if_neg hcl,if_neg hpos];exact qh _ _ _)
  ·have hpos:¬ 0<p.chans.getD c.toNat 0:=by simp [-List.getD_eq_getElem?_getD]at h7;omega
   refine sg rfl ?_;refine sq ?_;refine WP.ent (st':=aP [(0,.ptr (.b 0) 1 0 [])] [(.b 0,mO p (bW { m with val:=x} c { chI m.s c with offer:=1,frm:=m.g,val:=x}))]) ?_ ?_
   ·refine em [] trivial ⟨cq,tt⟩ ⟨obs rfl (hg:=q0 (ah (Ea (m:={ m with val:=x}) (by show c.toNat<m.s.chans.length;rw [h.s.chans];omega) (jZ _ 1) (zQ _ m.g) (nJ _ x)))),tt⟩
   refine rgs [⟨true,[.b 0],nK m,[mO p (bW { m with val:=x} c { chI m.s c with offer:=1,frm:=m.g,val:=x})]⟩] rfl ?_ ?_
   ·have hq:=lU p (bW { m with val:=x} c { chI m.s c with offer:=1,frm:=m.g,val:=x}) h.g;have hk1:=aK [.b 0] p (bW { m with val:=x} c { chI m.s c with offer:=1,frm:=m.g,val:=x})
    have hk2:=aK (bs 1) p (bW { m with val:=x} c { chI m.s c with offer:=1,frm:=m.g,val:=x});exact au
   refine WP.ent (st':=aP [(0,.ptr (.b 0) 1 0 [])] [(.b 0,mO p (gB (bW { m with val:=x} c { chI m.s c with offer:=1,frm:=m.g,val:=x}) { bf m with status:=2}))]) ?_ ?_
   ·refine em [] trivial ⟨cq,tt⟩ ⟨obs rfl (hg:=q0 (ah ((congrArg (fun z=>AV.put z [1,3,m.g.toNat,0] (.int 2)) (fB _ _ _)).trans (uH (qo (dD h x) c hb) (fQ _ 2))))),tt⟩
   refine rg [] rfl ?_;change Fin ..
   first
   | (
    refine aH hT [] (ts:=[]) (l:=[]) trivial trivial ⟨obs rfl (hg:=q0 (ah ?_)),tt⟩ rfl rfl rfl;rw [kP,if_pos hcl];exact fB _ _ _)
   | (
    refine aH hT [] (ts:=[]) (l:=[]) trivial trivial ⟨obs rfl (hg:=q0 (ah ?_)),tt⟩ rfl rfl rfl;rw [kP,if_neg hcl,if_pos hpos];have hcl4:c.toNat<m.s.chans.length:=by rw [h.s.chans];omega
    have hz:IntKind.i64.wrap ((chI (bW { m with val:=x} c (kN (chI m.s c) (chI m.s c).len x)).s c).len+1)=(chI m.s c).len+1:=by
     rw [gX hcl4];exact cu (by show _≤(chI m.s c).len+1;omega) (by show (chI m.s c).len+1<_;omega)
    show (gG p (bW { m with val:=x} c (kN (chI m.s c) (chI m.s c).len x))).put [1,2,c.toNat,1] (AV.int (IntKind.i64.wrap ((chI (bW { m with val:=x} c (kN (chI m.s c) (chI m.s c).len x)).s c).len+1)))=_;rw [hz];refine (jl (m:=bW { m with val:=x} c (kN (chI m.s c) (chI m.s c).len x)) (by show c.toNat<(m.s.chans.set _ _).length;rw [List.length_set];exact hcl4) (by rw [gX hcl4];exact qj _ _)).trans ?_;rw [pX])
   | (
    refine aH hT [] (ts:=[]) (l:=[]) trivial trivial ⟨obs rfl (hg:=q0 (ah ?_)),tt⟩ rfl rfl rfl;rw [kP,if_neg hcl,if_neg hpos];exact qh _ _ _)
def jW (l:List Int):List Int:=[l.getD 1 0,l.getD 2 0,l.getD 3 0,l.getD 3 0]
def bY (m:PM) (c:Int):PM×Bool :=
 if 0<(chI m.s c).len then (bW { m with val:=(chI m.s c).buf.getD 0 0} c { chI m.s c with buf:=(jW (chI m.s c).buf).set ((chI m.s c).len - 1).toNat 0,len:=(chI m.s c).len - 1},true)else
 if (chI m.s c).offer=1 then (bW { m with val:=(chI m.s c).val} c { chI m.s c with offer:=2,val:=0},true)else ({ m with val:=0},false)
theorem qm {m:PM} (h:OkM m) (c:Int):OkM (bY m c).1:=by
 have hb:(chI m.s c).buf.length=4:=lW h.s _;unfold bY;split
 ·exact qo (dD h _) c (by show (List.set _ _ _).length=4;rw [List.length_set];rfl)
 ·split
  ·exact qo (dD h _) c (x:={ chI m.s c with offer:=2,val:=0}) hb
  ·exact dD h _
theorem Kw {l:List Int} (h:l.length=4):(AV.agg 54 4 fun j=>bif Nat.ble 0 j&&Nat.blt j 3 then .int (l.getD (1+j) 0)else .int (l.getD j 0))=mQ 54 4 .i64 (jW l):=aW fun j=>by
 match j with
 | 0 | 1 | 2 | 3=>rfl
 | j+4=>exact congrArg AV.int (show l.getD (j+4) 0=0 by simp [List.getElem?_eq_none (show l.length≤j+4 by omega)])
theorem Ld (p:ay) (m:PM) (c:Int) (h:OkM m) (hc:0≤c∧c<4) (hlen:(chI m.s c).len≤4):AC Tryz.prog T aV 226 [.ptr (.b 0) 1 0 [],.int c] [mO p m] (.bool (bY m c).2) [mO p (bY m c).1]:=by
 refine aA hT Tryz.func226 rfl rfl (Nat.le_of_ble_eq_true rfl) ?_;have hb:(chI m.s c).buf.length=4:=lW h.s _
 have hcl4:c.toNat<m.s.chans.length:=by rw [h.s.chans];omega
 refine sg rfl ?_;refine sq (rgs [] rfl ?_ ?_)
 ·simp [-List.getD_eq_getElem?_getD,aj,under];omega
 refine sq (bk (sq (rg [] rfl ?_)));refine cd rfl (fun h4=>?_) (fun h4=>?_)
 ·have hpos:0<(chI m.s c).len:=by simp [-List.getD_eq_getElem?_getD]at h4;omega
  refine sg rfl ?_;refine sq ?_;refine WP.ent (st':=aP [(5,chM c)] [(.b 0,mO p { m with val:=(chI m.s c).buf.getD 0 0})]) ?_ ?_
  ·refine em [] trivial ⟨cq,tt⟩ ⟨obs rfl (hg:=q0 (ah (gW _ _ _))),tt⟩
  refine dr [] rfl ?_;refine sq ?_;refine WP.ent (st':=aP [(5,chM c)] [(.b 0,mO p (bW { m with val:=(chI m.s c).buf.getD 0 0} c { chI m.s c with buf:=jW (chI m.s c).buf}))]) ?_ ?_
  ·refine em [] trivial ⟨cq,tt⟩ ⟨obs rfl (hg:=q0 (ah (jl (m:={ m with val:=(chI m.s c).buf.getD 0 0}) hcl4 ((congrArg (fun z=>(fM (chI m.s c)).put [0] z) (Kw hb)).trans (aT (Nat.le_of_ble_eq_true rfl)))))),tt⟩
  refine rg [] rfl ?_;have hz:IntKind.i64.wrap ((chI (bW { m with val:=(chI m.s c).buf.getD 0 0} c { chI m.s c with buf:=jW (chI m.s c).buf}).s c).len - 1)=(chI m.s c).len - 1:=by
   rw [gX hcl4];exact cu (by show _≤(chI m.s c).len - 1;omega) (by show (chI m.s c).len - 1<_;omega)
  refine WP.ent (st':=aP [(5,chM c)] [(.b 0,mO p (bW { m with val:=(chI m.s c).buf.getD 0 0} c { chI m.s c with buf:=jW (chI m.s c).buf,len:=(chI m.s c).len - 1}))]) ?_ ?_
  ·refine em [] trivial ⟨cq,tt⟩ ⟨obs rfl (hg:=q0 (ah ((congrArg (fun z=>AV.put (gG p (bW { m with val:=(chI m.s c).buf.getD 0 0} c { chI m.s c with buf:=jW (chI m.s c).buf})) [1,2,c.toNat,1] (.int z)) hz).trans ((jl (m:=bW { m with val:=(chI m.s c).buf.getD 0 0} c { chI m.s c with buf:=jW (chI m.s c).buf}) (by show c.toNat<(m.s.chans.set _ _).length;rw [List.length_set];exact hcl4) (by rw [gX hcl4];exact qj _ _)).trans (by rw [pX]))))),tt⟩
  refine drs [] rfl ?_ ?_
  ·have e:(chI (bW { m with val:=(chI m.s c).buf.getD 0 0} c { chI m.s c with buf:=jW (chI m.s c).buf,len:=(chI m.s c).len - 1}).s c).len=(chI m.s c).len - 1:=by rw [gX hcl4]
   have hA:0≤(chI (bW { m with val:=(chI m.s c).buf.getD 0 0} c { chI m.s c with buf:=jW (chI m.s c).buf,len:=(chI m.s c).len - 1}).s c).len∧(chI (bW { m with val:=(chI m.s c).buf.getD 0 0} c { chI m.s c with buf:=jW (chI m.s c).buf,len:=(chI m.s c).len - 1}).s c).len<4:=by rw [e];omega
   simp only [aj,under,CG.pure]
   repeat' with_reducible refine And.intro ?_ ?_
   all_goals (try with_reducible intros)
   all_goals (first | exact trivial | assumption | omega | exact hA | exact hA.1 | exact hA.2 | (simp;done) | grind)
  refine sg rfl ?_;refine WP.ret ?_;change Fin ..;have e:(chI (bW { m with val:=(chI m.s c).buf.getD 0 0} c { chI m.s c with buf:=jW (chI m.s c).buf,len:=(chI m.s c).len - 1}).s c).len=(chI m.s c).len - 1:=by rw [gX hcl4]
  have er:bY m c=(bW { m with val:=(chI m.s c).buf.getD 0 0} c { chI m.s c with buf:=(jW (chI m.s c).buf).set ((chI m.s c).len - 1).toNat 0,len:=(chI m.s c).len - 1},true):=by rw [bY,if_pos hpos]
  rw [er];refine aH hT [] (ts:=[(4,.bool true)]) (l:=[.bool true]) trivial ⟨cq,tt⟩ ⟨obs rfl (hg:=q0 (ah ?_)),tt⟩ rfl rfl rfl;show (gG p (bW { m with val:=(chI m.s c).buf.getD 0 0} c { chI m.s c with buf:=jW (chI m.s c).buf,len:=(chI m.s c).len - 1})).put [1,2,c.toNat,0,(chI (bW { m with val:=(chI m.s c).buf.getD 0 0} c { chI m.s c with buf:=jW (chI m.s c).buf,len:=(chI m.s c).len - 1}).s c).len.toNat] (.int 0)=_
  rw [e];refine (jl (m:=bW { m with val:=(chI m.s c).buf.getD 0 0} c { chI m.s c with buf:=jW (chI m.s c).buf,len:=(chI m.s c).len - 1}) (by show c.toNat<(m.s.chans.set _ _).length;rw [List.length_set];exact hcl4) (by rw [gX hcl4];exact zT 0 (by show _<4;omega))).trans ?_;rw [pX]
 ·have hpos:¬ 0<(chI m.s c).len:=by simp [-List.getD_eq_getElem?_getD]at h4;exact Int.not_lt.mpr h4
  refine sg rfl ?_;refine cd rfl (fun h9=>?_) (fun h9=>?_)
  ·have hof:(chI m.s c).offer=1:=by simp [-List.getD_eq_getElem?_getD]at h9;exact h9
   refine sg rfl ?_;refine WP.ent (st':=aP [(5,chM c)] [(.b 0,mO p { m with val:=(chI m.s c).val})]) ?_ ?_
   ·refine em [] trivial ⟨cq,tt⟩ ⟨obs rfl (hg:=q0 (ah (gW _ _ _))),tt⟩
   refine rg [] rfl ?_;refine sg rfl ?_;refine WP.ret ?_;change Fin ..;have er:bY m c=(bW { m with val:=(chI m.s c).val} c { chI m.s c with offer:=2,val:=0},true):=by rw [bY,if_neg hpos,if_pos hof]
   rw [er];exact aH hT [] (ts:=[(4,.bool true)]) (l:=[.bool true]) trivial ⟨cq,tt⟩ ⟨obs rfl (hg:=q0 (ah (sU (m:={ m with val:=(chI m.s c).val}) hcl4 (jZ _ 2) (nJ _ 0)))),tt⟩ rfl rfl rfl
  ·have hof:¬ (chI m.s c).offer=1:=by simp [-List.getD_eq_getElem?_getD]at h9;exact h9
   refine sg rfl ?_;refine sg rfl ?_;refine WP.ret ?_;change Fin ..;have er:bY m c=({ m with val:=0},false):=by rw [bY,if_neg hpos,if_neg hof]
   rw [er];exact aH hT [] (ts:=[(4,.bool false)]) (l:=[.bool false]) trivial ⟨cq,tt⟩ ⟨obs rfl (hg:=q0 (ah (gW _ _ _))),tt⟩ rfl rfl rfl
def mW (m:PM) (c:Int):PM:=gB (bW m c { chI m.s c with offer:=0,frm:=0,val:=0}) { bf m with status:=1}
def mF (m:PM) (c:Int):PM:=if (chI m.s c).offer=3 then jP (mW m c) 4 else mW m c
theorem qW {m:PM} (h:OkM m) (c:Int):OkM (mW m c):=Nq (qo h c (x:={ chI m.s c with offer:=0,frm:=0,val:=0}) (lW h.s _)) (x:={ bf m with status:=1}) (jB h.s _)
theorem IC (p:ay) (m:PM) (c:Int) (h:OkM m) (hc:0≤c∧c<4):AC Tryz.prog T aV 229 [.ptr (.b 0) 1 0 [],.int c] [mO p m] (.tup []) [mO p (mF m c)]:=by
 refine aA hT Tryz.func229 rfl rfl (Nat.le_of_ble_eq_true rfl) ?_;have hcl4:c.toNat<m.s.chans.length:=by rw [h.s.chans];omega
 have hb:Nr (chI m.s c):=lW h.s _;refine sq (rgs [] rfl ?_ ?_)
 ·simp [-List.getD_eq_getElem?_getD,aj,under];omega
 refine sg rfl ?_;refine sg rfl ?_;refine sq ?_;refine WP.ent (st':=aP [(0,.ptr (.b 0) 1 0 []),(5,.bool ((chI m.s c).offer==3))] [(.b 0,mO p (bW m c { chI m.s c with offer:=0,frm:=0,val:=0}))]) ?_ ?_
 ·refine em [] trivial ⟨cq,cq,tt⟩ ⟨obs rfl (hg:=q0 (ah (Ea hcl4 (jZ _ 0) (zQ _ 0) (nJ _ 0)))),tt⟩
 refine rgs [⟨true,[.b 0],nK m,[mO p (bW m c { chI m.s c with offer:=0,frm:=0,val:=0})]⟩] rfl ?_ ?_
 ·have hq:=lU p (bW m c { chI m.s c with offer:=0,frm:=0,val:=0}) h.g;have hk1:=aK [.b 0] p (bW m c { chI m.s c with offer:=0,frm:=0,val:=0})
  have hk2:=aK (bs 1) p (bW m c { chI m.s c with offer:=0,frm:=0,val:=0});exact au
 refine sq ?_;refine WP.ent (st':=aP [(0,.ptr (.b 0) 1 0 []),(5,.bool ((chI m.s c).offer==3))] [(.b 0,mO p (mW m c))]) ?_ ?_
 ·refine em [] trivial ⟨cq,cq,tt⟩ ⟨obs rfl (hg:=q0 (ah ((congrArg (fun z=>AV.put z [1,3,m.g.toNat,0] (.int 1)) (fB _ _ _)).trans (uH (qo h c (x:={ chI m.s c with offer:=0,frm:=0,val:=0}) hb) (fQ _ 1))))),tt⟩
 refine rg [] rfl ?_;refine cd rfl (fun h4=>?_) (fun h4=>?_)
 ·have hl:(chI m.s c).offer=3:=by simpa using h4
  refine rgs [⟨true,[.b 0],.tup [],[mO p (jP (mW m c) 4)]⟩] rfl ?_ ?_
  ·have hq:=oJ p (mW m c) 4 (qW h c);have hk1:=aK [.b 0] p (mW m c)
   have hk2:=aK (bs 1) p (jP (mW m c) 4);exact au
  change Fin ..
  first
  | (
   refine aH hT [] (ts:=[]) (l:=[]) trivial trivial ⟨obs rfl (hg:=q0 (ah ?_)),tt⟩ rfl rfl rfl;rw [mF,if_pos hl];exact fB _ _ _)
  | (
   refine aH hT [] (ts:=[]) (l:=[]) trivial trivial ⟨obs rfl (hg:=q0 (ah ?_)),tt⟩ rfl rfl rfl;rw [mF,if_neg hl])
 ·have hl:¬ (chI m.s c).offer=3:=by simpa using h4
  refine sk ?_;change Fin ..
  first
  | (
   refine aH hT [] (ts:=[]) (l:=[]) trivial trivial ⟨obs rfl (hg:=q0 (ah ?_)),tt⟩ rfl rfl rfl;rw [mF,if_pos hl];exact fB _ _ _)
  | (
   refine aH hT [] (ts:=[]) (l:=[]) trivial trivial ⟨obs rfl (hg:=q0 (ah ?_)),tt⟩ rfl rfl rfl;rw [mF,if_neg hl])
def qP (m:PM) (c:Int):PM:=if (chI m.s c).closed=true then jP m 5 else if (chI m.s c).offer=1 then bW m c { chI m.s c with closed:=true,offer:=3,val:=0}else bW m c { chI m.s c with closed:=true}
theorem La (p:ay) (m:PM) (c:Int) (h:OkM m) (hc:0≤c∧c<4):AC Tryz.prog T aV 230 [.ptr (.b 0) 1 0 [],.int c] [mO p m] (.tup []) [mO p (qP m c)]:=by
 refine aA hT Tryz.func230 rfl rfl (Nat.le_of_ble_eq_true rfl) ?_;have hcl4:c.toNat<m.s.chans.length:=by rw [h.s.chans];omega
 refine sq (rgs [] rfl ?_ ?_)
 ·simp [-List.getD_eq_getElem?_getD,aj,under];omega
 refine sq (sq (rg [] rfl ?_));refine cd rfl (fun h1=>?_) (fun h1=>?_)
 ·have hcl:(chI m.s c).closed=true:=h1;refine sq (rgs [⟨true,[.b 0],.tup [],[mO p (jP m 5)]⟩] rfl ?_ ?_)
  ·have hq:=oJ p m 5 h;have hk1:=aK [.b 0] p m
   have hk2:=aK (bs 1) p (jP m 5);exact au
  refine WP.ret ?_;change Fin ..;refine aH hT [] (ts:=[]) (l:=[]) trivial trivial ⟨obs rfl (hg:=q0 (ah ?_)),tt⟩ rfl rfl rfl;rw [qP,if_pos hcl];exact fB _ _ _
 ·have hcl:¬ (chI m.s c).closed=true:=fun e=>absurd (h1.symm.trans e) (by decide);refine sk (sq (rg [] rfl ?_));refine sq ?_;have e1:(chI (bW m c { chI m.s c with closed:=true}).s c)={ chI m.s c with closed:=true}:=gX hcl4
  refine WP.ent (st':=aP [(4,chM c)] [(.b 0,mO p (bW m c { chI m.s c with closed:=true}))]) ?_ ?_
  ·refine em [] trivial ⟨cq,tt⟩ ⟨obs rfl (hg:=q0 (ah (jl hcl4 (zS _ true)))),tt⟩
  refine rg [] rfl ?_;refine cd rfl (fun h4=>?_) (fun h4=>?_)
  ·have hof:(chI m.s c).offer=1:=eq_of_beq ((congrArg (fun z:jw=>z.offer==1) e1).symm.trans h4);refine rg [] rfl ?_;change Fin ..
   first
   | (
    refine aH hT [] (ts:=[]) (l:=[]) trivial trivial ⟨obs rfl (hg:=q0 (ah ?_)),tt⟩ rfl rfl rfl;rw [qP,if_neg hcl,if_pos hof];refine (sU (m:=bW m c { chI m.s c with closed:=true}) (x:={ chI m.s c with closed:=true,offer:=3}) (x':={ chI m.s c with closed:=true,offer:=3,val:=0}) (by show c.toNat<(m.s.chans.set _ _).length;rw [List.length_set];exact hcl4) (by rw [e1];exact jZ _ 3) (nJ _ 0)).trans ?_;rw [pX])
   | (
    refine aH hT [] (ts:=[]) (l:=[]) trivial trivial ⟨obs rfl (hg:=q0 (ah ?_)),tt⟩ rfl rfl rfl;rw [qP,if_neg hcl,if_neg hof])
  ·have hof:¬ (chI m.s c).offer=1:=fun e=>absurd ((beq_iff_eq.2 e).symm.trans ((congrArg (fun z:jw=>z.offer==1) e1).symm.trans h4)) (by decide);refine sk ?_;change Fin ..
   first
   | (
    refine aH hT [] (ts:=[]) (l:=[]) trivial trivial ⟨obs rfl (hg:=q0 (ah ?_)),tt⟩ rfl rfl rfl;rw [qP,if_neg hcl,if_pos hof];refine (sU (m:=bW m c { chI m.s c with closed:=true}) (x:={ chI m.s c with closed:=true,offer:=3}) (x':={ chI m.s c with closed:=true,offer:=3,val:=0}) (by show c.toNat<(m.s.chans.set _ _).length;rw [List.length_set];exact hcl4) (by rw [e1];exact jZ _ 3) (nJ _ 0)).trans ?_;rw [pX])
   | (
    refine aH hT [] (ts:=[]) (l:=[]) trivial trivial ⟨obs rfl (hg:=q0 (ah ?_)),tt⟩ rfl rfl rfl;rw [qP,if_neg hcl,if_neg hof])
theorem KP {m:PM} (h:OkM m) (c:Int):OkM (qP m c):=by
 have hb:Nr (chI m.s c):=lW h.s _;unfold qP;split
 ·exact oC h 5
 ·split
  ·exact qo h c (x:={ chI m.s c with closed:=true,offer:=3,val:=0}) hb
  ·exact qo h c (x:={ chI m.s c with closed:=true}) hb
theorem Ip {m:PM} (h:OkM m) (c:Int):OkM (mF m c):=by
 unfold mF;split
 ·exact oC (qW h c) 4
 ·exact qW h c
def jK (b:Bool):Int:=if b then 1 else 0
theorem uP (b:Bool):AC Tryz.prog T aV 228 [.bool b] [] (.int (jK b)) []:=by
 refine aA hT Tryz.func228 rfl rfl (Nat.le_of_ble_eq_true rfl) ?_;refine sg rfl ?_;refine sq (sq (rg [] rfl ?_));refine cd rfl (fun h1=>?_) (fun h1=>?_)
 ·refine sg rfl ?_;refine WP.ret ?_;change Fin ..;refine dQ hT (by rfl) ?_;simp_all [jK]
 ·refine sk (sq (rg [] rfl ?_));refine WP.ret ?_;change Fin ..;refine dQ hT (by rfl) ?_;simp_all [jK]
abbrev setVar (m:PM) (k x:Int):PM:={ m with s:={ m.s with vars:=m.s.vars.set k.toNat x} }
abbrev rQ (m:PM) (k x:Int):PM:={ m with s:={ m.s with owner:=m.s.owner.set k.toNat x} }
abbrev dn (m:PM) (x:Int):PM:={ m with val:=x}
theorem Cm {m:PM} (h:OkM m) (k x:Int):OkM (setVar m k x):=⟨h.s.setVar _ _,h.g⟩
theorem CJ {m:PM} (h:OkM m) (k x:Int):OkM (rQ m k x):=⟨h.s.setOwn _ _,h.g⟩
theorem yj {p:ay} {m:PM} (h:OkM m) {k:Int} (hk:0≤k∧k<8) (x:Int):(gG p m).put [1,0,k.toNat] (.int x)=gG p (setVar m k x):=uG (D8 x (by rw [h.s.vars];omega))
theorem yu {p:ay} {m:PM} (h:OkM m) {k:Int} (hk:0≤k∧k<4) (x:Int):(gG p m).put [1,1,k.toNat] (.int x)=gG p (rQ m k x):=uG (KG x (by rw [h.s.owner];omega))
def wC (m:PM) (x:kE):PM:=if jK (mD m.s x.b==dY (bf m) x.c)=1 then setVar (dn m (jK (mD m.s x.b==dY (bf m) x.c))) x.b (dY (bf m) x.n)else dn m (jK (mD m.s x.b==dY (bf m) x.c))
def vX (m:PM) (x:kE):PM:=if jK (qI m.s x.b==0)=1 then rQ (dn m (jK (qI m.s x.b==0))) x.b (m.g+1)else dn m (jK (qI m.s x.b==0))
def wE (m:PM) (x:kE):PM:=dO (dn m (dY (bf m) x.c)) x.a (mD m.s x.b)
def aY (m:PM) (x:kE):PM×Bool :=
 if x.op=50 then (dO (dn m (mD m.s x.b)) x.a (mD m.s x.b),true)else if x.op=51 then (setVar (dn m (dY (bf m) x.b)) x.a (dY (bf m) x.b),true)else
 if x.op=52 then (setVar (wE m x) x.b (wI (mD (wE m x).s x.b+(wE m x).val)),true)else
 if x.op=53 then (dO (wC m x) x.a (jK (mD m.s x.b==dY (bf m) x.c)),true)else if x.op=54 then (dn m (dY (bf m) x.b),true)else
 if x.op=55 then (rQ m x.a (m.g+1),true)else if x.op=56 then (if qI m.s x.a≠m.g+1 then (jP m 6,true)else (rQ m x.a 0,true))else
 if x.op=57 then (dO (vX m x) x.a (jK (qI m.s x.b==0)),true)else (m,false)
theorem CO {m:PM} (h:OkM m) (x:kE):OkM (wC m x):=by
 unfold wC;split
 ·exact Cm (dD h _) _ _
 ·exact dD h _
theorem CB {m:PM} (h:OkM m) (x:kE):OkM (vX m x):=by
 unfold vX;split
 ·exact CJ (dD h _) _ _
 ·exact dD h _
theorem Eh {m:PM} (h:OkM m) (x:kE):OkM (wE m x):=lV (dD h _) _ _
theorem FV {m:PM} (h:OkM m) (x:kE):OkM (aY m x).1:=by
 unfold aY
 repeat' split
 ·exact lV (dD h _) _ _
 ·exact Cm (dD h _) _ _
 ·exact Cm (Eh h x) _ _
 ·exact lV (CO h x) _ _
 ·exact dD h _
 ·exact CJ h _ _
 ·exact oC h _
 ·exact CJ h _ _
 ·exact lV (CB h x) _ _
 ·exact h
theorem Ht (p:ay) (m:PM) (F:iW) (x:kE) (h:OkM m) (hp:wG p) (hF:Gz p F) (hi:x.op≠66→MW p F x):AC Tryz.prog T aV 224 [.ptr (.b 0) 1 0 [],aQ x] [mO p m] (.bool (aY m x).2) [mO p (aY m x).1]:=by
 refine aA hT Tryz.func224 rfl rfl (Nat.le_of_ble_eq_true rfl) ?_;have hr:=hF.regs;have hv:=hp.vars;have hlk:=hp.locks
 have hg:=h.g;have h8:(bf m).regs.length=8:=jB h.s _
 have hw1:IntKind.i64.wrap (m.g+1)=m.g+1:=cu (by omega) (by omega);refine sg rfl ?_;refine sq ?_;refine WP.ent (st':=aP [(0,.ptr (.b 0) 1 0 []),(3,.rp 120 (aQ x))] [(.b 0,mO p m)]) ?_ ?_
 ·refine em [(.s 3 0,1)] ⟨sF,tt⟩ ⟨cq,rq,tt⟩ ⟨obs rfl,tt⟩
 refine rgs [⟨true,[.b 0],nK m,[mO p m]⟩] rfl ?_ ?_
 ·have hq:=lU p m h.g;have hk1:=aK [.b 0] p m
  have hk2:=aK (bs 1) p m;exact au
 refine sq (sq ?_);refine WP.ent (st':=aP [(0,.ptr (.b 0) 1 0 []),(3,.rp 120 (aQ x)),(5,.rp 52 (mQ 52 8 .i64 (bf m).regs))] [(.b 0,mO p m)]) ?_ ?_
 ·refine em [(.s 5 0,1)] ⟨sF,tt⟩ ⟨cq,cq,rq,tt⟩ ⟨obs rfl (hg:=q0 (ah (fB _ _ _))),tt⟩
 refine rg [] rfl ?_;refine bk (sq (rg [] rfl ?_));refine cd rfl (fun h4=>?_) (fun h4=>?_)
 ·have e:x.op=50:=by simpa using h4
  have hx:=(hi (by omega)).load e;simp only [lJ,eP]at hx;refine sq (drs [] rfl ?_ ?_)
  ·simp [-List.getD_eq_getElem?_getD,aj,under];omega
  refine WP.ent (st':=aP [(0,.ptr (.b 0) 1 0 []),(3,.rp 120 (aQ x))] [(.b 0,mO p (dn m (mD m.s x.b)))]) ?_ ?_
  ·refine em [] trivial ⟨cq,cq,tt⟩ ⟨obs rfl (hg:=q0 (ah (gW _ _ _))),tt⟩
  refine drs [⟨true,[.b 0],.tup [],[mO p (dO (dn m (mD m.s x.b)) x.a (mD m.s x.b))]⟩] rfl ?_ ?_
  ·have hq:=jF p (dn m (mD m.s x.b)) x.a (mD m.s x.b) (dD h _) (by omega);have hk1:=aK [.b 0] p (dn m (mD m.s x.b))
   have hk2:=aK (bs 1) p (dO (dn m (mD m.s x.b)) x.a (mD m.s x.b));exact au
  refine sg rfl ?_;refine WP.ret ?_;change Fin ..;have er:aY m x=(dO (dn m (mD m.s x.b)) x.a (mD m.s x.b),true):=by rw [aY,if_pos e]
  rw [er];exact aH hT [] (ts:=[(4,.bool true)]) (l:=[.bool true]) trivial ⟨cq,tt⟩ ⟨obs rfl (hg:=q0 (ah (fB _ _ _))),tt⟩ rfl rfl rfl
 ·have e50:x.op≠50:=by simpa using h4
  refine sg rfl ?_;refine cd rfl (fun h7=>?_) (fun h7=>?_)
  ·have e:x.op=51:=by simpa using h7
   have hx:=(hi (by omega)).store (.inl e);simp only [lJ,eP]at hx;refine sq (rgs [] rfl ?_ ?_)
   ·simp [-List.getD_eq_getElem?_getD,aj,under];omega
   refine WP.ent (st':=aP [(0,.ptr (.b 0) 1 0 []),(3,.rp 120 (aQ x))] [(.b 0,mO p (dn m (dY (bf m) x.b)))]) ?_ ?_
   ·refine em [] trivial ⟨cq,cq,tt⟩ ⟨obs rfl (hg:=q0 (ah (gW _ _ _))),tt⟩
   refine drs [] rfl ?_ ?_
   ·simp [-List.getD_eq_getElem?_getD,aj,under];omega
   refine sg rfl ?_;refine WP.ret ?_;change Fin ..;have er:aY m x=(setVar (dn m (dY (bf m) x.b)) x.a (dY (bf m) x.b),true):=by simp only [aY,e];rfl
   rw [er];exact aH hT [] (ts:=[(4,.bool true)]) (l:=[.bool true]) trivial ⟨cq,tt⟩ ⟨obs rfl (hg:=q0 (ah (yj (dD h _) (by omega) _))),tt⟩ rfl rfl rfl
  ·have e51:x.op≠51:=by simpa using h7
   refine sg rfl ?_;refine cd rfl (fun h10=>?_) (fun h10=>?_)
   ·have e:x.op=52:=by simpa using h10
    have hx:=(hi (by omega)).bump e;simp only [lJ,eP]at hx;refine sq (rgs [] rfl ?_ ?_)
    ·simp [-List.getD_eq_getElem?_getD,aj,under];omega
    refine sq ?_;refine WP.ent (st':=aP [(0,.ptr (.b 0) 1 0 []),(3,.rp 120 (aQ x))] [(.b 0,mO p (dn m (dY (bf m) x.c)))]) ?_ ?_
    ·refine em [] trivial ⟨cq,cq,tt⟩ ⟨obs rfl (hg:=q0 (ah (gW _ _ _))),tt⟩
    refine drs [⟨true,[.b 0],.tup [],[mO p (wE m x)]⟩] rfl ?_ ?_
    ·have hq:=jF p (dn m (dY (bf m) x.c)) x.a (mD m.s x.b) (dD h _) (by omega);have hk1:=aK [.b 0] p (dn m (dY (bf m) x.c))
     have hk2:=aK (bs 1) p (wE m x);exact au
    refine WP.ent (st':=aP [(0,.ptr (.b 0) 1 0 []),(3,.rp 120 (aQ x))] [(.b 0,mO p (wE m x))]) ?_ ?_
    ·refine em [] trivial ⟨cq,cq,tt⟩ ⟨obs rfl (hg:=q0 (ah (fB _ _ _))),tt⟩
    refine drs [] rfl ?_ ?_
    ·simp [-List.getD_eq_getElem?_getD,aj,under];omega
    refine sg rfl ?_;refine WP.ret ?_;change Fin ..;have er:aY m x=(setVar (wE m x) x.b (wI (mD (wE m x).s x.b+(wE m x).val)),true):=by simp only [aY,e];rfl
    rw [er];exact aH hT [] (ts:=[(4,.bool true)]) (l:=[.bool true]) trivial ⟨cq,tt⟩ ⟨obs rfl (hg:=q0 (ah (yj (Eh h x) (by omega) _))),tt⟩ rfl rfl rfl
   ·have e52:x.op≠52:=by simpa using h10
    refine sg rfl ?_;refine cd rfl (fun h14=>?_) (fun h14=>?_)
    ·have e:x.op=53:=by simpa using h14
     have hx:=(hi (by omega)).cas e;simp only [lJ,eP]at hx;refine sq (drs [CG.pure (.int (jK (mD m.s x.b==dY (bf m) x.c)))] rfl ?_ ?_)
     ·have hq:=uP (mD m.s x.b==dY (bf m) x.c);exact au
     refine sq (sq ?_);refine WP.ent (st':=aP [(0,.ptr (.b 0) 1 0 []),(3,.rp 120 (aQ x)),(5,.rp 52 (mQ 52 8 .i64 (bf m).regs))] [(.b 0,mO p (dn m (jK (mD m.s x.b==dY (bf m) x.c))))]) ?_ ?_
     ·refine em [] trivial ⟨cq,cq,cq,tt⟩ ⟨obs rfl (hg:=q0 (ah (gW _ _ _))),tt⟩
     refine rg [] rfl ?_;refine cd rfl (fun h16=>?_) (fun h16=>?_)
     ·have hz:jK (mD m.s x.b==dY (bf m) x.c)=1:=eq_of_beq h16;have ec:wC m x=setVar (dn m (jK (mD m.s x.b==dY (bf m) x.c))) x.b (dY (bf m) x.n):=by rw [wC,if_pos hz]
      refine drs [] rfl ?_ ?_
      ·simp [-List.getD_eq_getElem?_getD,aj,under];omega
      refine WP.ent (st':=aP [(0,.ptr (.b 0) 1 0 []),(3,.rp 120 (aQ x))] [(.b 0,mO p (wC m x))]) ?_ ?_
      ·refine em [] trivial ⟨cq,cq,tt⟩ ⟨obs rfl (hg:=q0 (ah (by rw [ec];exact yj (dD h _) (by omega) _))),tt⟩
      refine drs [⟨true,[.b 0],.tup [],[mO p (dO (wC m x) x.a (jK (mD m.s x.b==dY (bf m) x.c)))]⟩] rfl ?_ ?_
      ·have ev:(wC m x).val=jK (mD m.s x.b==dY (bf m) x.c):=by rw [ec]
       have hq:=jF p (wC m x) x.a (jK (mD m.s x.b==dY (bf m) x.c)) (CO h x) (by omega);have hk1:=aK [.b 0] p (wC m x)
       have hk2:=aK (bs 1) p (dO (wC m x) x.a (jK (mD m.s x.b==dY (bf m) x.c)));rw [← ev]at hq hk2 ⊢;exact au
      refine sg rfl ?_;refine WP.ret ?_;change Fin ..;have er:aY m x=(dO (wC m x) x.a (jK (mD m.s x.b==dY (bf m) x.c)),true):=by simp only [aY,e];rfl
      rw [er];exact aH hT [] (ts:=[(4,.bool true)]) (l:=[.bool true]) trivial ⟨cq,tt⟩ ⟨obs rfl (hg:=q0 (ah (fB _ _ _))),tt⟩ rfl rfl rfl
     ·have hz:¬ jK (mD m.s x.b==dY (bf m) x.c)=1:=fun e=>absurd ((beq_iff_eq.2 e).symm.trans h16) (by decide);have ec:wC m x=dn m (jK (mD m.s x.b==dY (bf m) x.c)):=by rw [wC,if_neg hz]
      refine sk ?_;refine WP.ent (st':=aP [(0,.ptr (.b 0) 1 0 []),(3,.rp 120 (aQ x))] [(.b 0,mO p (wC m x))]) ?_ ?_
      ·refine em [] trivial ⟨cq,cq,tt⟩ ⟨obs rfl (hg:=q0 (ah (by rw [ec]))),tt⟩
      refine drs [⟨true,[.b 0],.tup [],[mO p (dO (wC m x) x.a (jK (mD m.s x.b==dY (bf m) x.c)))]⟩] rfl ?_ ?_
      ·have ev:(wC m x).val=jK (mD m.s x.b==dY (bf m) x.c):=by rw [ec]
       have hq:=jF p (wC m x) x.a (jK (mD m.s x.b==dY (bf m) x.c)) (CO h x) (by omega);have hk1:=aK [.b 0] p (wC m x)
       have hk2:=aK (bs 1) p (dO (wC m x) x.a (jK (mD m.s x.b==dY (bf m) x.c)));rw [← ev]at hq hk2 ⊢;exact au
      refine sg rfl ?_;refine WP.ret ?_;change Fin ..;have er:aY m x=(dO (wC m x) x.a (jK (mD m.s x.b==dY (bf m) x.c)),true):=by simp only [aY,e];rfl
      rw [er];exact aH hT [] (ts:=[(4,.bool true)]) (l:=[.bool true]) trivial ⟨cq,tt⟩ ⟨obs rfl (hg:=q0 (ah (fB _ _ _))),tt⟩ rfl rfl rfl
    ·have e53:x.op≠53:=by simpa using h14
     refine sg rfl ?_;refine cd rfl (fun h19=>?_) (fun h19=>?_)
     ·have e:x.op=54:=by simpa using h19
      have hx:=(hi (by omega)).store (.inr e);simp only [lJ,eP]at hx;refine rgs [] rfl ?_ ?_
      ·simp [-List.getD_eq_getElem?_getD,aj,under];omega
      refine sg rfl ?_;refine WP.ret ?_;change Fin ..;have er:aY m x=(dn m (dY (bf m) x.b),true):=by simp only [aY,e];rfl
      rw [er];exact aH hT [] (ts:=[(4,.bool true)]) (l:=[.bool true]) trivial ⟨cq,tt⟩ ⟨obs rfl (hg:=q0 (ah (gW _ _ _))),tt⟩ rfl rfl rfl
     ·have e54:x.op≠54:=by simpa using h19
      refine sg rfl ?_;refine cd rfl (fun h21=>?_) (fun h21=>?_)
      ·have e:x.op=55:=by simpa using h21
       have hx:=(hi (by omega)).lock (.inl e);refine drs [] rfl ?_ ?_
       ·simp [-List.getD_eq_getElem?_getD,aj,under];omega
       refine sg rfl ?_;refine WP.ret ?_;change Fin ..;have er:aY m x=(rQ m x.a (m.g+1),true):=by simp only [aY,e];rfl
       rw [er];exact aH hT [] (ts:=[(4,.bool true)]) (l:=[.bool true]) trivial ⟨cq,tt⟩ ⟨obs rfl (hg:=q0 (ah ((congrArg (fun z=>(gG p m).put [1,1,x.a.toNat] (.int z)) hw1).trans (yu h (by omega) _)))),tt⟩ rfl rfl rfl
      ·have e55:x.op≠55:=by simpa using h21
       refine sg rfl ?_;refine cd rfl (fun h23=>?_) (fun h23=>?_)
       ·have e:x.op=56:=by simpa using h23
        have hx:=(hi (by omega)).lock (.inr e);refine sq (sq (drs [] rfl ?_ ?_))
        ·simp [-List.getD_eq_getElem?_getD,aj,under];omega
        refine cd rfl (fun h24=>?_) (fun h24=>?_)
        ·have hz:qI m.s x.a≠m.g+1:=by
          have h9:(qI m.s x.a != IntKind.i64.wrap (m.g+1))=true:=h24;rw [hw1]at h9;exact bne_iff_ne.1 h9
         refine sq (rgs [⟨true,[.b 0],.tup [],[mO p (jP m 6)]⟩] rfl ?_ ?_)
         ·have hq:=oJ p m 6 h;have hk1:=aK [.b 0] p m
          have hk2:=aK (bs 1) p (jP m 6);exact au
         refine sg rfl ?_;refine WP.ret ?_;change Fin ..;have er:aY m x=(jP m 6,true):=by simp only [aY,e];exact if_pos hz
         rw [er];exact aH hT [] (ts:=[(4,.bool true)]) (l:=[.bool true]) trivial ⟨cq,tt⟩ ⟨obs rfl (hg:=q0 (ah (fB _ _ _))),tt⟩ rfl rfl rfl
        ·have hz:¬ qI m.s x.a≠m.g+1:=by
          have h9:(qI m.s x.a != IntKind.i64.wrap (m.g+1))=false:=h24;rw [hw1]at h9;simpa using h9
         refine sk (drs [] rfl ?_ ?_)
         ·simp [-List.getD_eq_getElem?_getD,aj,under];omega
         refine sg rfl ?_;refine WP.ret ?_;change Fin ..;have er:aY m x=(rQ m x.a 0,true):=by simp only [aY,e];exact if_neg hz
         rw [er];exact aH hT [] (ts:=[(4,.bool true)]) (l:=[.bool true]) trivial ⟨cq,tt⟩ ⟨obs rfl (hg:=q0 (ah (yu h (by omega) _))),tt⟩ rfl rfl rfl
       ·have e56:x.op≠56:=by simpa using h23
        refine sg rfl ?_;refine cd rfl (fun h28=>?_) (fun h28=>?_)
        ·have e:x.op=57:=by simpa using h28
         have hx:=(hi (by omega)).try_ e;simp only [lJ,eP]at hx;refine sq (drs [CG.pure (.int (jK (qI m.s x.b==0)))] rfl ?_ ?_)
         ·have hq:=uP (qI m.s x.b==0);exact au
         refine sq (sq ?_);refine WP.ent (st':=aP [(0,.ptr (.b 0) 1 0 []),(3,.rp 120 (aQ x))] [(.b 0,mO p (dn m (jK (qI m.s x.b==0))))]) ?_ ?_
         ·refine em [] trivial ⟨cq,cq,tt⟩ ⟨obs rfl (hg:=q0 (ah (gW _ _ _))),tt⟩
         refine rg [] rfl ?_;refine cd rfl (fun h30=>?_) (fun h30=>?_)
         ·have hz:jK (qI m.s x.b==0)=1:=eq_of_beq h30;have ec:vX m x=rQ (dn m (jK (qI m.s x.b==0))) x.b (m.g+1):=by rw [vX,if_pos hz]
          refine drs [] rfl ?_ ?_
          ·simp [-List.getD_eq_getElem?_getD,aj,under];omega
          refine WP.ent (st':=aP [(0,.ptr (.b 0) 1 0 []),(3,.rp 120 (aQ x))] [(.b 0,mO p (vX m x))]) ?_ ?_
          ·refine em [] trivial ⟨cq,cq,tt⟩ ⟨obs rfl (hg:=q0 (ah (by rw [ec];exact (congrArg (fun z=>(gG p (dn m (jK (qI m.s x.b==0)))).put [1,1,x.b.toNat] (.int z)) hw1).trans (yu (dD h _) (by omega) _)))),tt⟩
          refine drs [⟨true,[.b 0],.tup [],[mO p (dO (vX m x) x.a (jK (qI m.s x.b==0)))]⟩] rfl ?_ ?_
          ·have ev:(vX m x).val=jK (qI m.s x.b==0):=by rw [ec]
           have hq:=jF p (vX m x) x.a (jK (qI m.s x.b==0)) (CB h x) (by omega);have hk1:=aK [.b 0] p (vX m x)
           have hk2:=aK (bs 1) p (dO (vX m x) x.a (jK (qI m.s x.b==0)));rw [← ev]at hq hk2 ⊢;exact au
          refine sg rfl ?_;refine WP.ret ?_;change Fin ..;have er:aY m x=(dO (vX m x) x.a (jK (qI m.s x.b==0)),true):=by simp only [aY,e];rfl
          rw [er];exact aH hT [] (ts:=[(4,.bool true)]) (l:=[.bool true]) trivial ⟨cq,tt⟩ ⟨obs rfl (hg:=q0 (ah (fB _ _ _))),tt⟩ rfl rfl rfl
         ·have hz:¬ jK (qI m.s x.b==0)=1:=fun e=>absurd ((beq_iff_eq.2 e).symm.trans h30) (by decide);have ec:vX m x=dn m (jK (qI m.s x.b==0)):=by rw [vX,if_neg hz]
          refine sk ?_;refine WP.ent (st':=aP [(0,.ptr (.b 0) 1 0 []),(3,.rp 120 (aQ x))] [(.b 0,mO p (vX m x))]) ?_ ?_
          ·refine em [] trivial ⟨cq,cq,tt⟩ ⟨obs rfl (hg:=q0 (ah (by rw [ec]))),tt⟩
          refine drs [⟨true,[.b 0],.tup [],[mO p (dO (vX m x) x.a (jK (qI m.s x.b==0)))]⟩] rfl ?_ ?_
          ·have ev:(vX m x).val=jK (qI m.s x.b==0):=by rw [ec]
           have hq:=jF p (vX m x) x.a (jK (qI m.s x.b==0)) (CB h x) (by omega);have hk1:=aK [.b 0] p (vX m x)
           have hk2:=aK (bs 1) p (dO (vX m x) x.a (jK (qI m.s x.b==0)));rw [← ev]at hq hk2 ⊢;exact au
          refine sg rfl ?_;refine WP.ret ?_;change Fin ..;have er:aY m x=(dO (vX m x) x.a (jK (qI m.s x.b==0)),true):=by simp only [aY,e];rfl
          rw [er];exact aH hT [] (ts:=[(4,.bool true)]) (l:=[.bool true]) trivial ⟨cq,tt⟩ ⟨obs rfl (hg:=q0 (ah (fB _ _ _))),tt⟩ rfl rfl rfl
        ·have e57:x.op≠57:=by simpa using h28
         refine sg rfl ?_;refine WP.ret ?_;change Fin ..;have er:aY m x=(m,false):=by rw [aY,if_neg e50,if_neg e51,if_neg e52,if_neg e53,if_neg e54,if_neg e55,if_neg e56,if_neg e57]
         rw [er];exact aH hT [] (ts:=[(4,.bool false)]) (l:=[.bool false]) trivial ⟨cq,tt⟩ ⟨obs rfl,tt⟩ rfl rfl rfl
def KL (g:PGo) (c:Int) (k:Nat):List Int:=(List.range 8).map fun i=>if i<k then dY g (c+i)else 0
theorem Eb (g:PGo) (c:Int) (k:Nat):(KL g c k).length=8:=by simp [KL]
theorem KJ {g:PGo} {c:Int} {k:Nat} (h:k<8):(KL g c k).set k (dY g (c+k))=KL g c (k+1):=by
 refine List.ext_getElem (by simp [KL]) fun i h1 h2=>?_;have hi:i<8:=by simpa [KL]using h2
 rw [List.getElem_set];simp only [KL,List.getElem_map,List.getElem_range];split
 ·subst_vars;rw [if_pos (by omega)]
 ·by_cases e:i<k
  ·rw [if_pos e,if_pos (by omega)]
  ·rw [if_neg e,if_neg (by omega)]
def rZ (g:PGo) (x:kE) (k:Nat):PGo:={ status:=1,func:=x.b,pc:=0,why:=0,regs:=KL g x.c k}
abbrev Ec (p:ay) (x:kE):Int:=(p.funcs.getD x.b.toNat yI).params
def rM (p:ay) (m:PM) (x:kE):PM:={ m with s:={ m.s with gos:=m.s.gos.set m.s.count.toNat (rZ (bf m) x (Ec p x).toNat),count:=m.s.count+1},val:=m.s.count}
def jh (p:ay) (m:PM) (x:kE):PM×Int:=if m.s.count=6 then (jP m 8,-1)else (dO (rM p m x) x.a m.s.count,m.s.count)
theorem wW {p:ay} {m:PM} (h:OkM m) (x:kE):OkM (rM p m x):=⟨⟨h.s.vars,h.s.owner,h.s.chans,by show (m.s.gos.set _ _).length=6;rw [List.length_set];exact h.s.gos,h.s.ch,fun g hg=>by
 rcases List.mem_or_eq_of_mem_set hg with h1 | h1
 ·exact h.s.go g h1
 ·rw [h1];exact Eb _ _ _⟩,h.g⟩
theorem Iq {p:ay} {m:PM} (h:OkM m) (x:kE):OkM (jh p m x).1:=by
 unfold jh;split
 ·exact oC h 8
 ·exact lV (wW h x) _ _
theorem QL (g:PGo) (x:kE):((T 59).zero.put [0] (.int 1)).put [1] (.int x.b)=bH (rZ g x 0):=by
 rw [DF,fQ,show (bH { go0 with status:=1}).put [1] (.int x.b)=bH { go0 with status:=1,func:=x.b}from aT (Nat.le_of_ble_eq_true rfl)];rfl
theorem J9 (p:ay) (m:PM) (F:iW) (x:kE) (h:OkM m) (hp:wG p) (hF:Gz p F) (hi:MW p F x) (e62:x.op=62) (hct:0≤m.s.count∧m.s.count≤6):AC Tryz.prog T aV 232 [.ptr (.b 0) 1 0 [],aQ x] [mO p m] (.int (jh p m x).2) [mO p (jh p m x).1]:=by
 refine aA hT Tryz.func232 rfl rfl (Nat.le_of_ble_eq_true rfl) ?_;have hr:=hF.regs
 have hs:=hi.spawn e62;have hfl:=hp.funcs
 simp only [lJ,eP]at hs;have hgf:p.funcs.getD x.b.toNat yI∈p.funcs:=by rw [List.getD_eq_getElem?_getD,List.getElem?_eq_getElem (show x.b.toNat<p.funcs.length by omega)];exact List.getElem_mem _
 have hpr:=(hp.fn _ hgf).pars;have hpr8:=(hp.fn _ hgf).regs
 have hpc:(Ec p x=0∧x.c=0)∨0<Ec p x∧0≤x.c∧x.c+Ec p x≤F.regs:=by
  have h1:=hs.2.2 _ rfl;rcases h1 with h1 | h1
  ·exact .inl h1
  ·refine .inr ⟨h1.1,h1.2.1,?_⟩;have h2:=h1.2.2
   rw [cu (by omega) (by omega)]at h2;show x.c+(p.funcs.getD x.b.toNat yI).params≤F.regs
   omega
 have hp8:0≤Ec p x∧Ec p x≤8:=by show 0≤(p.funcs.getD x.b.toNat yI).params∧(p.funcs.getD x.b.toNat yI).params≤8;omega
 have hg6:=h.s.gos;have hgg:=h.g
 refine sg rfl ?_;refine sq (sq ?_);refine WP.ent (st':=aP [(0,.ptr (.b 0) 1 0 []),(3,.rp 120 (aQ x))] [(.b 0,mO p m)]) ?_ ?_
 ·refine em [(.s 3 0,1)] ⟨sF,tt⟩ ⟨cq,rq,tt⟩ ⟨obs rfl,tt⟩
 refine rg [] rfl ?_;refine cd rfl (fun h1=>?_) (fun h1=>?_)
 ·have hz:m.s.count=6:=eq_of_beq h1;refine sq (rgs [⟨true,[.b 0],.tup [],[mO p (jP m 8)]⟩] rfl ?_ ?_)
  ·have hq:=oJ p m 8 h;have hk1:=aK [.b 0] p m
   have hk2:=aK (bs 1) p (jP m 8);exact au
  refine sg rfl ?_;refine WP.ret ?_;change Fin ..;have er:jh p m x=(jP m 8,-1):=by rw [jh,if_pos hz]
  rw [er];exact aH hT [] (ts:=[(4,.int (-1))]) (l:=[.int (-1)]) trivial ⟨cq,tt⟩ ⟨obs rfl (hg:=q0 (ah (fB _ _ _))),tt⟩ rfl rfl rfl
 ·have hz:¬ m.s.count=6:=fun e=>absurd ((beq_iff_eq.2 e).symm.trans h1) (by decide);refine sk (sq (rg [] rfl ?_));refine sq (sq (drs [] rfl ?_ ?_))
  ·simp [-List.getD_eq_getElem?_getD,aj,under];omega
  refine bk ?_;refine WP.loop (α:=Nat) (fun k=>aP [(0,.ptr (.b 0) 1 0 []),(3,.rp 120 (aQ x)),(5,.ptr (.s 5 0) 1 0 []),(28,.int (Ec p x)),(29,.int k)] [(.b 0,mO p m),(.s 5 0,.cells ⟨59,1,fun _=>bH (rZ (bf m) x k),0⟩)]) (fun k=>(k:Int)≤Ec p x) (fun k=>8 - k) ?_ ?_
  ·refine ⟨0,?_,?_⟩
   ·exact hp8.1
   ·refine em [] trivial ⟨cq,cq,cq,cq,cq,tt⟩ ⟨obs rfl,obs rfl (hg:=q0 (ah (QL _ _))),tt⟩
  ·rintro k hk;refine sg rfl ?_;refine sq ?_;refine cd rfl (fun h6=>?_) (fun h6=>?_)
   ·have hkl:(k:Int)<Ec p x:=of_decide_eq_true h6;have hw:IntKind.i64.wrap (x.c+(k:Int))=x.c+k:=cu (by omega) (by omega)
    refine sk (sq (bk (sq (rg [] rfl ?_))));refine drs [⟨true,[.b 0],nK m,[mO p m]⟩] rfl ?_ ?_
    ·have hq:=lU p m h.g;have hk1:=aK [.b 0] p m
     have hk2:=aK (bs 1) p m;have ha:0≤IntKind.i64.wrap (x.c+(k:Int))∧IntKind.i64.wrap (x.c+(k:Int))<8:=by rw [hw];omega
     simp only [aj,under,CG.pure]
     repeat' with_reducible refine And.intro ?_ ?_
     all_goals (try with_reducible intros)
     all_goals (first | exact trivial | assumption | omega | exact hq | exact hk1 | exact hk2 | exact ha | exact ha.1 | exact ha.2 | (simp;done) | grind)
    refine rg [] rfl ?_;refine ⟨k+1,?_,?_,?_⟩
    ·omega
    ·refine em [] trivial ⟨cq,cq,cq,cq,cq,tt⟩ ⟨obs rfl (hg:=q0 (ah (fB _ _ _))),obs rfl (hg:=q0 (ah ((congrArg (fun z:Int=>(bH (rZ (bf m) x k)).put [4,(k:Int).toNat] (.int (dY (bf m) z))) hw).trans ((kY _ (by show (k:Int).toNat<(KL _ _ _).length;rw [Eb];omega)).trans (by simp only [Int.toNat_natCast,rZ];rw [KJ (by omega)]))))),tt⟩
    ·(try simp only []);first | omega | grind
   ·have hkl:¬ (k:Int)<Ec p x:=of_decide_eq_false h6;have ek:k=(Ec p x).toNat:=by omega
    subst ek;refine xt (sq (rg [] rfl ?_));refine sq (drs [] rfl ?_ ?_)
    ·simp [-List.getD_eq_getElem?_getD,aj,under];omega
    refine sq ?_;refine WP.ent (st':=aP [(0,.ptr (.b 0) 1 0 []),(3,.rp 120 (aQ x)),(7,.int m.s.count)] [(.b 0,mO p { m with s:={ m.s with gos:=m.s.gos.set m.s.count.toNat (rZ (bf m) x (Ec p x).toNat) } })]) ?_ ?_
    ·refine em [] trivial ⟨cq,cq,cq,tt⟩ ⟨obs rfl (hg:=q0 (ah (uG (yh (by omega) (Qh _ _))))),tt⟩
    refine rg [] rfl ?_;refine sq ?_;have hw2:IntKind.i64.wrap (m.s.count+1)=m.s.count+1:=cu (by omega) (by omega)
    refine WP.ent (st':=aP [(0,.ptr (.b 0) 1 0 []),(3,.rp 120 (aQ x)),(7,.int m.s.count)] [(.b 0,mO p { m with s:={ m.s with gos:=m.s.gos.set m.s.count.toNat (rZ (bf m) x (Ec p x).toNat),count:=m.s.count+1} })]) ?_ ?_
    ·refine em [] trivial ⟨cq,cq,cq,tt⟩ ⟨obs rfl (hg:=q0 (ah ((congrArg (fun z=>AV.put (gG p { m with s:={ m.s with gos:=m.s.gos.set m.s.count.toNat (rZ (bf m) x (Ec p x).toNat) } }) [1,4] (.int z)) hw2).trans (uG (wR _ _))))),tt⟩
    refine rg [] rfl ?_;refine sq ?_;refine WP.ent (st':=aP [(0,.ptr (.b 0) 1 0 []),(3,.rp 120 (aQ x)),(7,.int m.s.count)] [(.b 0,mO p (rM p m x))]) ?_ ?_
    ·refine em [] trivial ⟨cq,cq,cq,tt⟩ ⟨obs rfl (hg:=q0 (ah (gW _ _ _))),tt⟩
    refine drs [⟨true,[.b 0],.tup [],[mO p (dO (rM p m x) x.a m.s.count)]⟩] rfl ?_ ?_
    ·have hq:=jF p (rM p m x) x.a m.s.count (wW h x) (by omega);have hk1:=aK [.b 0] p (rM p m x)
     have hk2:=aK (bs 1) p (dO (rM p m x) x.a m.s.count);exact au
    refine sg rfl ?_;refine WP.ret ?_;change Fin ..;have er:jh p m x=(dO (rM p m x) x.a m.s.count,m.s.count):=by rw [jh,if_neg hz]
    rw [er];exact aH hT [] (ts:=[(4,.int m.s.count)]) (l:=[.int m.s.count]) trivial ⟨cq,tt⟩ ⟨obs rfl (hg:=q0 (ah (fB _ _ _))),tt⟩ rfl rfl rfl
theorem Ag (p:ay) (m:PM) (c x:Int) (h:OkM m) (hc:eP c p.chans.length) (hp:wG p) (hs:ng p m.s c=true) (hlen:0≤(chI m.s c).len):AC Tryz.prog T aV 225 [.ptr (.b 0) 1 0 [],.int c,.int x] (List.map (iG (sig [.b 0] 0)) [mO p m]) (.tup []) [mO p (kP p m c x)]:=by rw [jy];exact Lc p m c x h hc hp hs hlen
theorem Ah (p:ay) (m:PM) (c:Int) (h:OkM m) (hc:0≤c∧c<4) (hlen:(chI m.s c).len≤4):AC Tryz.prog T aV 226 [.ptr (.b 0) 1 0 [],.int c] (List.map (iG (sig [.b 0] 0)) [mO p m]) (.bool (bY m c).2) [mO p (bY m c).1]:=by rw [jy];exact Ld p m c h hc hlen
def fC (p:ay) (m:PM) (q:y8) (alt:Int):PM×Int :=
 if alt=q.cases.length then (m,q.els)else
 (if (aG q alt.toNat).send=true then kP p m (aG q alt.toNat).chan (dY (bf m) (aG q alt.toNat).reg)else dO (bY m (aG q alt.toNat).chan).1 (aG q alt.toNat).reg (bY m (aG q alt.toNat).chan).1.val,(aG q alt.toNat).to)
theorem FW {p:ay} {m:PM} (h:OkM m) (q:y8) (alt:Int):OkM (fC p m q alt).1:=by
 unfold fC;split
 ·exact h
 ·show OkM (if _ then _ else _);split
  ·exact Ee h _ _
  ·exact lV (qm h _) _ _
def Qs (s:PSt):Prop := ∀ c:Int,0≤c∧c<4→0≤(chI s c).len∧(chI s c).len≤4
theorem JD (p:ay) (m:PM) (F:iW) (q:y8) (alt:Int) (h:OkM m) (hp:wG p) (hF:Gz p F) (hq:QW p F q) (ha:0≤alt∧alt≤q.cases.length) (hl:Qs m.s) (hs:alt<q.cases.length→(aG q alt.toNat).send=true→ng p m.s (aG q alt.toNat).chan=true):AC Tryz.prog T aV 231 [.ptr (.b 0) 1 0 [],lF q,.int alt] [mO p m] (.int (fC p m q alt).2) [mO p (fC p m q alt).1]:=by
 refine aA hT Tryz.func231 rfl rfl (Nat.le_of_ble_eq_true rfl) ?_;have hc4:=hp.chans
 have hr:=hF.regs;refine sg rfl ?_;refine sq (sq ?_);refine WP.ent (st':=aP [(0,.ptr (.b 0) 1 0 []),(2,.int alt),(4,.rp 103 (lF q))] [(.b 0,mO p m)]) ?_ ?_
 ·refine em [(.s 4 0,1)] ⟨sF,tt⟩ ⟨cq,cq,rq,tt⟩ ⟨obs rfl,tt⟩
 refine rg [] rfl ?_;refine cd rfl (fun h1=>?_) (fun h1=>?_)
 ·have hz:alt=q.cases.length:=eq_of_beq h1;refine sg rfl ?_;refine WP.ret ?_;change Fin ..;have er:fC p m q alt=(m,q.els):=by rw [fC,if_pos hz]
  rw [er];exact aH hT [] (ts:=[(6,.int q.els)]) (l:=[.int q.els]) trivial ⟨cq,tt⟩ ⟨obs rfl,tt⟩ rfl rfl rfl
 ·have hz:¬ alt=q.cases.length:=fun e=>absurd ((beq_iff_eq.2 e).symm.trans h1) (by decide);have hal:alt.toNat<q.cases.length:=by omega
  have hcp:=hq.case (aG q alt.toNat) (by unfold aG;rw [List.getD_eq_getElem?_getD,List.getElem?_eq_getElem hal];exact List.getElem_mem _);have hch:=hcp.chan
  have hch4:0≤(aG q alt.toNat).chan∧(aG q alt.toNat).chan<4:=by unfold eP at hch;omega
  refine sk (sq (rgs [] rfl ?_ ?_))
  ·simp [-List.getD_eq_getElem?_getD,aj,under];omega
  refine sq (sq ?_);refine WP.ent (st':=aP [(0,.ptr (.b 0) 1 0 []),(7,.rp 215 (pK (aG q alt.toNat)))] [(.b 0,mO p m)]) ?_ ?_
  ·refine em [(.s 7 0,1)] ⟨sF,tt⟩ ⟨cq,rq,tt⟩ ⟨obs rfl,tt⟩
  refine rg [] rfl ?_;refine cd rfl (fun h4=>?_) (fun h4=>?_)
  ·have hsd:(aG q alt.toNat).send=true:=h4;have hrg:=hcp.reg (.inl hsd)
   unfold lJ at hrg;refine drs [⟨true,[.b 0],nK m,[mO p m]⟩,⟨true,[.b 0],.tup [],[mO p (kP p m (aG q alt.toNat).chan (dY (bf m) (aG q alt.toNat).reg))]⟩] rfl ?_ ?_
   ·have hq1:=lU p m h.g;have hk1:=aK [.b 0] p m
    have hk2:=aK (bs 1) p m;have hq2:=Ag p m (aG q alt.toNat).chan (dY (bf m) (aG q alt.toNat).reg) h hch hp (hs (by omega) hsd) (hl _ hch4).1
    have hk3:=aK (bs 1) p (kP p m (aG q alt.toNat).chan (dY (bf m) (aG q alt.toNat).reg));have hx:∀ σ:Id→Id,Ob.cells ⟨263,1,fun _=>ren σ (gG p m),0⟩=mO p m:=fun σ=>by rw [fB]
    simp only [iG,hx];exact au
   refine sg rfl ?_;refine WP.ret ?_;change Fin ..;have er:fC p m q alt=(kP p m (aG q alt.toNat).chan (dY (bf m) (aG q alt.toNat).reg),(aG q alt.toNat).to):=by rw [fC,if_neg hz,if_pos hsd]
   rw [er];exact aH hT [] (ts:=[(6,.int (aG q alt.toNat).to)]) (l:=[.int (aG q alt.toNat).to]) trivial ⟨cq,tt⟩ ⟨obs rfl (hg:=q0 (ah (fB _ _ _))),tt⟩ rfl rfl rfl
  ·have hsd:¬ (aG q alt.toNat).send=true:=fun e=>absurd (h4.symm.trans e) (by decide);have hrg:(aG q alt.toNat).reg<8:=by
    by_cases e:(aG q alt.toNat).reg = -1
    ·omega
    ·have:=hcp.reg (.inr e);unfold lJ at this;omega
   refine sq (rgs [⟨true,[.b 0],.bool (bY m (aG q alt.toNat).chan).2,[mO p (bY m (aG q alt.toNat).chan).1]⟩] rfl ?_ ?_)
   ·have hq1:=Ah p m (aG q alt.toNat).chan h hch4 (hl _ hch4).2;have hk1:=aK [.b 0] p m
    have hk2:=aK (bs 1) p (bY m (aG q alt.toNat).chan).1;exact au
   refine WP.ent (st':=aP [(0,.ptr (.b 0) 1 0 []),(7,.rp 215 (pK (aG q alt.toNat)))] [(.b 0,mO p (bY m (aG q alt.toNat).chan).1)]) ?_ ?_
   ·refine em [] trivial ⟨cq,cq,tt⟩ ⟨obs rfl (hg:=q0 (ah (fB _ _ _))),tt⟩
   refine drs [⟨true,[.b 0],.tup [],[mO p (dO (bY m (aG q alt.toNat).chan).1 (aG q alt.toNat).reg (bY m (aG q alt.toNat).chan).1.val)]⟩] rfl ?_ ?_
   ·have hq1:=jF p (bY m (aG q alt.toNat).chan).1 (aG q alt.toNat).reg (bY m (aG q alt.toNat).chan).1.val (qm h _) hrg;have hk1:=aK [.b 0] p (bY m (aG q alt.toNat).chan).1
    have hk2:=aK (bs 1) p (dO (bY m (aG q alt.toNat).chan).1 (aG q alt.toNat).reg (bY m (aG q alt.toNat).chan).1.val);exact au
   refine sg rfl ?_;refine WP.ret ?_;change Fin ..;have er:fC p m q alt=(dO (bY m (aG q alt.toNat).chan).1 (aG q alt.toNat).reg (bY m (aG q alt.toNat).chan).1.val,(aG q alt.toNat).to):=by rw [fC,if_neg hz,if_neg hsd]
   rw [er];exact aH hT [] (ts:=[(6,.int (aG q alt.toNat).to)]) (l:=[.int (aG q alt.toNat).to]) trivial ⟨cq,tt⟩ ⟨obs rfl (hg:=q0 (ah (fB _ _ _))),tt⟩ rfl rfl rfl
theorem Hr {m:PM} {x:kE} (h:(aY m x).2=false):(aY m x).1=m∧(x.op≠50∧x.op≠51∧x.op≠52∧x.op≠53∧x.op≠54∧x.op≠55∧x.op≠56∧x.op≠57):=by
 unfold aY at h ⊢;by_cases h0:x.op=50
 ·rw [if_pos h0]at h;cases h
 rw [if_neg h0]at h ⊢;by_cases h1:x.op=51
 ·rw [if_pos h1]at h;cases h
 rw [if_neg h1]at h ⊢;by_cases h2:x.op=52
 ·rw [if_pos h2]at h;cases h
 rw [if_neg h2]at h ⊢;by_cases h3:x.op=53
 ·rw [if_pos h3]at h;cases h
 rw [if_neg h3]at h ⊢;by_cases h4:x.op=54
 ·rw [if_pos h4]at h;cases h
 rw [if_neg h4]at h ⊢;by_cases h5:x.op=55
 ·rw [if_pos h5]at h;cases h
 rw [if_neg h5]at h ⊢;by_cases h6:x.op=56
 ·rw [if_pos h6]at h;split at h <;> cases h
 rw [if_neg h6]at h ⊢;by_cases h7:x.op=57
 ·rw [if_pos h7]at h;cases h
 rw [if_neg h7];exact ⟨rfl,h0,h1,h2,h3,h4,h5,h6,h7⟩
def qJ (p:ay) (m:PM) (x:kE) (alt:Int):PM×Int×Int :=
 if (aY m x).2=true then ((aY m x).1,(bf m).pc+1,-1)else
 if x.op=58 then (kP p m x.a (dY (bf m) x.b),(bf m).pc+1,-1)else
 if x.op=59 then (dO (dO (bY m x.b).1 x.a (bY m x.b).1.val) x.c (jK (bY m x.b).2),(bf m).pc+1,-1)else
 if x.op=66 then (mF m x.a,(bf m).pc+1,-1)else if x.op=60 then (qP m x.a,(bf m).pc+1,-1)else
 if x.op=61 then ((fC p m (aX (jv p (bf m)) x.a.toNat) alt).1,(fC p m (aX (jv p (bf m)) x.a.toNat) alt).2,-1)else
 if x.op=62 then ((jh p m x).1,(bf m).pc+1,(jh p m x).2)else
 if x.op=63 then (if kU m.s m.g (dY (bf m) x.a)=true then dn m (dY (bf m) x.a)else jP (dn m (dY (bf m) x.a)) 7,(bf m).pc+1,-1)else
 if x.op=65 then (dn m (dY (bf m) x.a),(bf m).pc+1,-1)else (m,(bf m).pc+1,-1)
theorem oK {p:ay} {s:PSt} {q:y8} {x:Int}:∀ {k:Nat},x∈fF p s q k ↔ ∃ j:Nat,j<k∧x=j∧yU p s (aG q j)=true
 | 0=>by simp [fF]
 | k+1=>by
  rw [fF,kG];constructor
  ·intro h;split at h
   ·rename_i hb;rcases List.mem_append.1 h with h | h
    ·obtain ⟨j,h1,h2,h3⟩:=oK.1 h;exact ⟨j,by omega,h2,h3⟩
    ·exact ⟨k,by omega,by simpa using h,hb⟩
   ·obtain ⟨j,h1,h2,h3⟩:=oK.1 h;exact ⟨j,by omega,h2,h3⟩
  ·rintro ⟨j,h1,h2,h3⟩;by_cases e:j=k
   ·subst e;rw [if_pos h3];simp [h2]
   ·have:x∈fF p s q k:=(oK (k:=k)).2 ⟨j,by omega,h2,h3⟩;split
    ·exact List.mem_append_left _ this
    ·exact this
theorem JL {p:ay} {s:PSt} {g alt:Int} (ha:alt∈lI p s g) (h:(atI p s g).op≠61):mG p s g=true∧alt=0:=by
 rw [lI,if_pos h]at ha;split at ha
 ·rename_i hr;exact ⟨hr,by simpa using ha⟩
 ·cases ha
theorem MO {p:ay} {s:PSt} {g alt:Int} (ha:alt∈lI p s g) (h:(atI p s g).op=61):(0≤alt∧alt≤(dS p s g).cases.length)∧(alt<(dS p s g).cases.length→yU p s (aG (dS p s g) alt.toNat)=true):=by
 rw [lI,if_neg (by simp [h]),kG]at ha;have key:alt∈fF p s (dS p s g) (dS p s g).cases.length→(0≤alt∧alt≤(dS p s g).cases.length)∧(alt<(dS p s g).cases.length→yU p s (aG (dS p s g) alt.toNat)=true):=fun hm=>by
  obtain ⟨j,h1,h2,h3⟩:=oK.1 hm;exact ⟨by omega,fun _=>by rw [h2,Int.toNat_natCast];exact h3⟩
 split at ha
 ·rcases List.mem_append.1 ha with h1 | h1
  ·exact key h1
  ·have h2:alt=(dS p s g).cases.length:=by simpa using h1
   exact ⟨by omega,fun h3=>by omega⟩
 ·exact key ha
theorem OB {p:ay} {s:PSt} (hv:jf p s):Qs s:=fun c hc=>by
 have hp:=o9 hv.1;have h1:=hv.2.2.2.2.2.1 c.toNat (by omega)
 by_cases h2:c.toNat<p.chans.length
 ·have h3:=(h1.1 h2).1.1;have h4:=hp.caps (MH p c.toNat) (by simp [MH,h2])
  exact ⟨h3.1,Int.le_trans h3.2 h4.2⟩
 ·have h3:=h1.2 (by omega);have e:chI s c=ch0:=h3
  rw [e];decide
def sN (s:PSt) (g n:Int):PM:=⟨s,g,n,0,false⟩
theorem QO (p:ay) (s:PSt) (g n alt:Int) (h:eX p s g) (ha:alt∈lI p s g):AC Tryz.prog T aV 161 [.ptr (.b 0) 1 0 [],aQ (atI p s g),.int alt] [mO p (sN s g n)] (.tup [.int (qJ p (sN s g n) (atI p s g) alt).2.1,.int (qJ p (sN s g n) (atI p s g) alt).2.2]) [mO p (qJ p (sN s g n) (atI p s g) alt).1]:=by
 refine aA hT Tryz.func161 rfl rfl (Nat.le_of_ble_eq_true rfl) ?_;have hp:=h.prog
 have hF:=h.fn;have hat:=h.at
 have hr:=hF.regs;have hc4:=hp.chans
 have hi:(atI p s g).op≠66→MW p (jv p (goI s g)) (atI p s g):=fun e=>by rw [hat.ins e];exact h.ins
 have hok:OkM (sN s g n):=⟨h.ok,h.pos⟩;have hlens:=OB h.valid
 have hpc:=h.fit.2.2.1;have hcl:=hF.code
 unfold eP at hpc;have hw:IntKind.i64.wrap ((goI s g).pc+1)=(goI s g).pc+1:=cu (by omega) (by omega)
 obtain ⟨m,hm⟩:∃ m,sN s g n=m:=⟨_,rfl⟩;have hms:m.s=s:=by rw [← hm];rfl
 have hmg:m.g=g:=by rw [← hm];rfl
 have hmo:bf m=goI s g:=by rw [← hm];rfl
 obtain ⟨x,hx⟩:∃ x,atI p s g=x:=⟨_,rfl⟩;rw [hm]at hok ⊢;rw [hx]at hi ⊢;rw [← hmo]at hw;have h8:(bf m).regs.length=8:=jB hok.s _
 refine sg rfl ?_;refine sq ?_;refine WP.ent (st':=aP [(0,.ptr (.b 0) 1 0 []),(2,.int alt),(4,.rp 120 (aQ x))] [(.b 0,mO p m)]) ?_ ?_
 ·refine em [(.s 4 0,1)] ⟨sF,tt⟩ ⟨cq,cq,rq,tt⟩ ⟨obs rfl,tt⟩
 refine rgs [⟨true,[.b 0],nK m,[mO p m]⟩] rfl ?_ ?_
 ·have hq:=lU p m hok.g;have hk1:=aK [.b 0] p m
  have hk2:=aK (bs 1) p m;exact au
 refine sq (sq ?_);refine WP.ent (st':=aP [(0,.ptr (.b 0) 1 0 []),(2,.int alt),(4,.rp 120 (aQ x)),(6,.int ((bf m).pc+1)),(7,.int (-1))] [(.b 0,mO p m)]) ?_ ?_
 ·refine em [] trivial ⟨cq,cq,cq,⟨rfl,_,rfl,ah (congrArg AV.int hw)⟩,cq,tt⟩ ⟨obs rfl (hg:=q0 (ah (fB _ _ _))),tt⟩
 refine rgs [⟨true,[.b 0],.bool (aY m x).2,[mO p (aY m x).1]⟩] rfl ?_ ?_
 ·have hq:AC Tryz.prog T aV 224 [.ptr (.b 0) 1 0 [],aQ x] (List.map (iG (sig [.b 0] 0)) [mO p m]) (.bool (aY m x).2) [mO p (aY m x).1]:=by rw [jy];exact Ht p m _ x hok hp hF hi
  have hk1:=aK [.b 0] p m;have hk2:=aK (bs 1) p (aY m x).1
  have hz:ren (sig [.b 0] 0) (aQ x)=aQ x:=aW (fun q=>by match q with | 0 | 1 | 2 | 3 | 4 | q+5=>rfl);rw [← hz]at hq;exact au
 refine cd rfl (fun h2=>?_) (fun h2=>?_)
 ·have hs2:(aY m x).2=true:=h2;refine sg rfl ?_;refine WP.ret ?_;change Fin ..;have er:qJ p m x alt=((aY m x).1,(bf m).pc+1,-1):=by rw [qJ,if_pos hs2]
  rw [er];exact aH hT [] (ts:=[(6,.int ((bf m).pc+1)),(7,.int (-1))]) (l:=[.int ((bf m).pc+1),.int (-1)]) trivial ⟨cq,cq,tt⟩ ⟨obs rfl (hg:=q0 (ah (fB _ _ _))),tt⟩ rfl rfl rfl
 ·have hs2:(aY m x).2=false:=h2;obtain ⟨hsm,hn0,hn1,hn2,hn3,hn4,hn5,hn6,hn7⟩:=Hr hs2;have hs3:¬ (aY m x).2=true:=by rw [hs2];decide
  refine sk (sq ?_);refine WP.ent (st':=aP [(0,.ptr (.b 0) 1 0 []),(2,.int alt),(4,.rp 120 (aQ x)),(6,.int ((bf m).pc+1)),(7,.int (-1))] [(.b 0,mO p m)]) ?_ ?_
  ·refine em [] trivial ⟨cq,cq,cq,cq,cq,tt⟩ ⟨obs rfl (hg:=q0 (ah ((fB _ _ _).trans (by rw [hsm])))),tt⟩
  refine rgs [⟨true,[.b 0],nK m,[mO p m]⟩] rfl ?_ ?_
  ·have hq:=lU p m hok.g;have hk1:=aK [.b 0] p m
   have hk2:=aK (bs 1) p m;exact au
  refine sq (sq ?_);refine WP.ent (st':=aP [(0,.ptr (.b 0) 1 0 []),(2,.int alt),(4,.rp 120 (aQ x)),(6,.int ((bf m).pc+1)),(7,.int (-1)),(8,.rp 52 (mQ 52 8 .i64 (bf m).regs))] [(.b 0,mO p m)]) ?_ ?_
  ·refine em [(.s 8 0,1)] ⟨sF,tt⟩ ⟨cq,cq,cq,cq,cq,rq,tt⟩ ⟨obs rfl (hg:=q0 (ah (fB _ _ _))),tt⟩
  refine rg [] rfl ?_;refine bk (sq (rg [] rfl ?_));refine cd rfl (fun h6=>?_) (fun h6=>?_)
  ·have e:x.op=58:=by simpa using h6
   have hb:=hat.send;rw [hx]at hb;have hb:=hb (.inl e)
   have hsd:ng p m.s x.a=true:=by
    have h1:=(JL ha (by rw [hx];omega)).1;unfold mG at h1;rw [hx]at h1;simp only [e]at h1;rw [hms];exact h1
   have hxr:=((hi (by omega)).send e).2;have hba:=hb
   unfold lJ at hxr;unfold eP at hba;refine drs [⟨true,[.b 0],.tup [],[mO p (kP p m x.a (dY (bf m) x.b))]⟩] rfl ?_ ?_
   ·have hq:=Ag p m x.a (dY (bf m) x.b) hok hb hp hsd (by rw [hms];exact (hlens x.a (by omega)).1);have hk1:=aK [.b 0] p m
    have hk2:=aK (bs 1) p (kP p m x.a (dY (bf m) x.b));exact au
   refine sg rfl ?_;refine WP.ret ?_;change Fin ..;have er:qJ p m x alt=(kP p m x.a (dY (bf m) x.b),(bf m).pc+1,-1):=by simp only [qJ,hs2,e];rfl
   rw [er];exact aH hT [] (ts:=[(6,.int ((bf m).pc+1)),(7,.int (-1))]) (l:=[.int ((bf m).pc+1),.int (-1)]) trivial ⟨cq,cq,tt⟩ ⟨obs rfl (hg:=q0 (ah (fB _ _ _))),tt⟩ rfl rfl rfl
  ·have e58:x.op≠58:=by simpa using h6
   refine sg rfl ?_;refine cd rfl (fun h8=>?_) (fun h8=>?_)
   ·have e:x.op=59:=by simpa using h8
    have hxr:=(hi (by omega)).recv e;simp only [lJ,eP]at hxr;refine sq (rgs [⟨true,[.b 0],.bool (bY m x.b).2,[mO p (bY m x.b).1]⟩] rfl ?_ ?_)
    ·have hq:=Ah p m x.b hok (by omega) (by rw [hms];exact (hlens x.b (by omega)).2);have hk1:=aK [.b 0] p m
     have hk2:=aK (bs 1) p (bY m x.b).1;exact au
    refine sq ?_;refine WP.ent (st':=aP [(0,.ptr (.b 0) 1 0 []),(4,.rp 120 (aQ x)),(6,.int ((bf m).pc+1)),(7,.int (-1)),(9,.bool (bY m x.b).2)] [(.b 0,mO p (bY m x.b).1)]) ?_ ?_
    ·refine em [] trivial ⟨cq,cq,cq,cq,cq,tt⟩ ⟨obs rfl (hg:=q0 (ah (fB _ _ _))),tt⟩
    refine drs [⟨true,[.b 0],.tup [],[mO p (dO (bY m x.b).1 x.a (bY m x.b).1.val)]⟩] rfl ?_ ?_
    ·have hq:=jF p (bY m x.b).1 x.a (bY m x.b).1.val (qm hok _) (by omega);have hk1:=aK [.b 0] p (bY m x.b).1
     have hk2:=aK (bs 1) p (dO (bY m x.b).1 x.a (bY m x.b).1.val);exact au
    refine WP.ent (st':=aP [(0,.ptr (.b 0) 1 0 []),(4,.rp 120 (aQ x)),(6,.int ((bf m).pc+1)),(7,.int (-1)),(9,.bool (bY m x.b).2)] [(.b 0,mO p (dO (bY m x.b).1 x.a (bY m x.b).1.val))]) ?_ ?_
    ·refine em [] trivial ⟨cq,cq,cq,cq,cq,tt⟩ ⟨obs rfl (hg:=q0 (ah (fB _ _ _))),tt⟩
    refine drs [CG.pure (.int (jK (bY m x.b).2)),⟨true,[.b 0],.tup [],[mO p (dO (dO (bY m x.b).1 x.a (bY m x.b).1.val) x.c (jK (bY m x.b).2))]⟩] rfl ?_ ?_
    ·have hq0:=uP (bY m x.b).2;have hq:=jF p (dO (bY m x.b).1 x.a (bY m x.b).1.val) x.c (jK (bY m x.b).2) (lV (qm hok _) _ _) (by omega)
     have hk1:=aK [.b 0] p (dO (bY m x.b).1 x.a (bY m x.b).1.val);have hk2:=aK (bs 1) p (dO (dO (bY m x.b).1 x.a (bY m x.b).1.val) x.c (jK (bY m x.b).2))
     exact au
    refine sg rfl ?_;refine WP.ret ?_;change Fin ..;have er:qJ p m x alt=(dO (dO (bY m x.b).1 x.a (bY m x.b).1.val) x.c (jK (bY m x.b).2),(bf m).pc+1,-1):=by simp only [qJ,hs2,e];rfl
    rw [er];exact aH hT [] (ts:=[(6,.int ((bf m).pc+1)),(7,.int (-1))]) (l:=[.int ((bf m).pc+1),.int (-1)]) trivial ⟨cq,cq,tt⟩ ⟨obs rfl (hg:=q0 (ah (fB _ _ _))),tt⟩ rfl rfl rfl
   ·have e59:x.op≠59:=by simpa using h8
    refine sg rfl ?_;refine cd rfl (fun h12=>?_) (fun h12=>?_)
    ·have e:x.op=66:=by simpa using h12
     have hb:=hat.send;rw [hx]at hb;have hba:=hb (.inr (.inr e))
     unfold eP at hba;refine rgs [⟨true,[.b 0],.tup [],[mO p (mF m x.a)]⟩] rfl ?_ ?_
     ·have hq:AC Tryz.prog T aV 229 [.ptr (.b 0) 1 0 [],.int x.a] (List.map (iG (sig [.b 0] 0)) [mO p m]) (.tup []) [mO p (mF m x.a)]:=by rw [jy];exact IC p m x.a hok (by omega)
      have hk1:=aK [.b 0] p m;have hk2:=aK (bs 1) p (mF m x.a)
      exact au
     refine sg rfl ?_;refine WP.ret ?_;change Fin ..;have er:qJ p m x alt=(mF m x.a,(bf m).pc+1,-1):=by simp only [qJ,hs2,e];rfl
     rw [er];exact aH hT [] (ts:=[(6,.int ((bf m).pc+1)),(7,.int (-1))]) (l:=[.int ((bf m).pc+1),.int (-1)]) trivial ⟨cq,cq,tt⟩ ⟨obs rfl (hg:=q0 (ah (fB _ _ _))),tt⟩ rfl rfl rfl
    ·have e66:x.op≠66:=by simpa using h12
     refine sg rfl ?_;refine cd rfl (fun h14=>?_) (fun h14=>?_)
     ·have e:x.op=60:=by simpa using h14
      have hb:=hat.send;rw [hx]at hb;have hba:=hb (.inr (.inl e))
      unfold eP at hba;refine rgs [⟨true,[.b 0],.tup [],[mO p (qP m x.a)]⟩] rfl ?_ ?_
      ·have hq:AC Tryz.prog T aV 230 [.ptr (.b 0) 1 0 [],.int x.a] (List.map (iG (sig [.b 0] 0)) [mO p m]) (.tup []) [mO p (qP m x.a)]:=by rw [jy];exact La p m x.a hok (by omega)
       have hk1:=aK [.b 0] p m;have hk2:=aK (bs 1) p (qP m x.a)
       exact au
      refine sg rfl ?_;refine WP.ret ?_;change Fin ..;have er:qJ p m x alt=(qP m x.a,(bf m).pc+1,-1):=by simp only [qJ,hs2,e];rfl
      rw [er];exact aH hT [] (ts:=[(6,.int ((bf m).pc+1)),(7,.int (-1))]) (l:=[.int ((bf m).pc+1),.int (-1)]) trivial ⟨cq,cq,tt⟩ ⟨obs rfl (hg:=q0 (ah (fB _ _ _))),tt⟩ rfl rfl rfl
     ·have e60:x.op≠60:=by simpa using h14
      refine sg rfl ?_;refine cd rfl (fun h16=>?_) (fun h16=>?_)
      ·have e:x.op=61:=by simpa using h16
       have hse:=h.sel (by rw [hx];exact e);have hca:=MO ha (by rw [hx];exact e)
       simp only [dS,hx]at hse hca;rw [← hmo]at hse hca;have hb1:=hse.1
       have hb2:=h.fit.2.1;rw [← hmo]at hb2;unfold eP at hb1 hb2;refine drs [⟨true,[.b 0],nK m,[]⟩,⟨true,[.b 0],.int (fC p m (aX (jv p (bf m)) x.a.toNat) alt).2,[mO p (fC p m (aX (jv p (bf m)) x.a.toNat) alt).1]⟩] rfl ?_ ?_
       ·have hq1:AC Tryz.prog T aV 162 [.ptr (.b 0) 1 0 []] (List.map (iG (sig [.b 0] 0)) [mO p m]) (nK m) (List.map (iG (sig [.b 0] 0)) [mO p m]):=by rw [jy];exact Il p m hok.g
        have hk0:List.map (iG (tau [.b 0])) (List.map (iG (sig [.b 0] 0)) [mO p m])=[mO p m]:=by rw [jy,jy]
        have hk1:=aK [.b 0] p m;have hk2:lg (bs 1) (List.map (iG (sig [.b 0] 0)) [mO p m]):=by rw [jy];exact aK _ p m
        have hq2:AC Tryz.prog T aV 231 [.ptr (.b 0) 1 0 [],ren (sig [.b 0] 0) (lF (aX (jv p (bf m)) x.a.toNat)),.int alt] (List.map (iG (sig [.b 0] 0)) [mO p m]) (.int (fC p m (aX (jv p (bf m)) x.a.toNat) alt).2) [mO p (fC p m (aX (jv p (bf m)) x.a.toNat) alt).1]:=by
         have hz:ren (sig [.b 0] 0) (lF (aX (jv p (bf m)) x.a.toNat))=lF (aX (jv p (bf m)) x.a.toNat):=aW (fun q=>by match q with | 0 | 1 | q+2=>rfl);rw [jy,hz];refine JD p m (jv p (bf m)) _ alt hok hp (by rw [hmo];exact hF) hse.2 hca.1 (by rw [hms];exact hlens) (fun h1 h2=>?_);have h3:=hca.2 h1
         rw [yU,h2]at h3;rw [hms];simpa using h3
        have hk3:=aK (bs 1) p (fC p m (aX (jv p (bf m)) x.a.toNat) alt).1;simp only [jv,bf,goI]at hb1 hb2;exact au
       refine sg rfl ?_;refine WP.ret ?_;change Fin ..;have er:qJ p m x alt=((fC p m (aX (jv p (bf m)) x.a.toNat) alt).1,(fC p m (aX (jv p (bf m)) x.a.toNat) alt).2,-1):=by simp only [qJ,hs2,e];rfl
       rw [er];exact aH hT [] (ts:=[(6,.int ((fC p m (aX (jv p (bf m)) x.a.toNat) alt).2)),(7,.int (-1))]) (l:=[.int ((fC p m (aX (jv p (bf m)) x.a.toNat) alt).2),.int (-1)]) trivial ⟨cq,cq,tt⟩ ⟨obs rfl (hg:=q0 (ah (fB _ _ _))),tt⟩ rfl rfl rfl
      ·have e61:x.op≠61:=by simpa using h16
       refine sg rfl ?_;refine cd rfl (fun h18=>?_) (fun h18=>?_)
       ·have e:x.op=62:=by simpa using h18
        refine rgs [⟨true,[.b 0],.int (jh p m x).2,[mO p (jh p m x).1]⟩] rfl ?_ ?_
        ·have hct:=h.valid.2.1;have hq:AC Tryz.prog T aV 232 [.ptr (.b 0) 1 0 [],aQ x] (List.map (iG (sig [.b 0] 0)) [mO p m]) (.int (jh p m x).2) [mO p (jh p m x).1]:=by rw [jy];exact J9 p m _ x hok hp hF (hi (by omega)) e (by rw [hms];omega)
         have hk1:=aK [.b 0] p m;have hk2:=aK (bs 1) p (jh p m x).1
         have hz:ren (sig [.b 0] 0) (aQ x)=aQ x:=aW (fun q=>by match q with | 0 | 1 | 2 | 3 | 4 | q+5=>rfl);rw [← hz]at hq;exact au
        refine sg rfl ?_;refine WP.ret ?_;change Fin ..;have er:qJ p m x alt=((jh p m x).1,(bf m).pc+1,(jh p m x).2):=by simp only [qJ,hs2,e];rfl
        rw [er];exact aH hT [] (ts:=[(6,.int ((bf m).pc+1)),(7,.int ((jh p m x).2))]) (l:=[.int ((bf m).pc+1),.int ((jh p m x).2)]) trivial ⟨cq,cq,tt⟩ ⟨obs rfl (hg:=q0 (ah (fB _ _ _))),tt⟩ rfl rfl rfl
       ·have e62:x.op≠62:=by simpa using h18
        refine sg rfl ?_;refine cd rfl (fun h20=>?_) (fun h20=>?_)
        ·have e:x.op=63:=by simpa using h20
         have hxr:=(hi (by omega)).const (by omega);unfold lJ at hxr;refine sq (rgs [] rfl ?_ ?_)
         ·simp [-List.getD_eq_getElem?_getD,aj,under];omega
         refine sq ?_;refine WP.ent (st':=aP [(0,.ptr (.b 0) 1 0 []),(6,.int ((bf m).pc+1)),(7,.int (-1))] [(.b 0,mO p (dn m (dY (bf m) x.a)))]) ?_ ?_
         ·refine em [] trivial ⟨cq,cq,cq,tt⟩ ⟨obs rfl (hg:=q0 (ah (gW _ _ _))),tt⟩
         refine drs [CG.pure (.bool (kU m.s m.g (dY (bf m) x.a)))] rfl ?_ ?_
         ·have hq:=xO m.s m.g (dY (bf m) x.a);exact au
         refine cd rfl (fun h22=>?_) (fun h22=>?_)
         ·have hth:¬ kU m.s m.g (dY (bf m) x.a)=true:=by simpa using h22
          refine rgs [⟨true,[.b 0],.tup [],[mO p (jP (dn m (dY (bf m) x.a)) 7)]⟩] rfl ?_ ?_
          ·have hq:=oJ p (dn m (dY (bf m) x.a)) 7 (dD hok _);have hk1:=aK [.b 0] p (dn m (dY (bf m) x.a))
           have hk2:=aK (bs 1) p (jP (dn m (dY (bf m) x.a)) 7);exact au
          refine sg rfl ?_;refine WP.ret ?_;change Fin ..;have er:qJ p m x alt=(jP (dn m (dY (bf m) x.a)) 7,(bf m).pc+1,-1):=by simp only [qJ,hs2,e];exact congrArg (fun z=>(z,_,_)) (if_neg hth)
          rw [er];exact aH hT [] (ts:=[(6,.int ((bf m).pc+1)),(7,.int (-1))]) (l:=[.int ((bf m).pc+1),.int (-1)]) trivial ⟨cq,cq,tt⟩ ⟨obs rfl (hg:=q0 (ah (fB _ _ _))),tt⟩ rfl rfl rfl
         ·have hth:kU m.s m.g (dY (bf m) x.a)=true:=by simpa using h22
          refine sk (sq (rg [] rfl ?_));refine WP.ret ?_;change Fin ..;have er:qJ p m x alt=(dn m (dY (bf m) x.a),(bf m).pc+1,-1):=by simp only [qJ,hs2,e];exact congrArg (fun z=>(z,_,_)) (if_pos hth)
          rw [er];exact aH hT [] (ts:=[(6,.int ((bf m).pc+1)),(7,.int (-1))]) (l:=[.int ((bf m).pc+1),.int (-1)]) trivial ⟨cq,cq,tt⟩ ⟨obs rfl (hg:=q0 (ah (rfl))),tt⟩ rfl rfl rfl
        ·have e63:x.op≠63:=by simpa using h20
         refine sg rfl ?_;refine cd rfl (fun h24=>?_) (fun h24=>?_)
         ·have e:x.op=65:=by simpa using h24
          have hxr:=(hi (by omega)).const (by omega);unfold lJ at hxr;refine rgs [] rfl ?_ ?_
          ·simp [-List.getD_eq_getElem?_getD,aj,under];omega
          refine sg rfl ?_;refine WP.ret ?_;change Fin ..;have er:qJ p m x alt=(dn m (dY (bf m) x.a),(bf m).pc+1,-1):=by simp only [qJ,hs2,e];rfl
          rw [er];exact aH hT [] (ts:=[(6,.int ((bf m).pc+1)),(7,.int (-1))]) (l:=[.int ((bf m).pc+1),.int (-1)]) trivial ⟨cq,cq,tt⟩ ⟨obs rfl (hg:=q0 (ah (gW _ _ _))),tt⟩ rfl rfl rfl
         ·have e65:x.op≠65:=by simpa using h24
          refine sk (sq (rg [] rfl ?_));refine WP.ret ?_;change Fin ..;have er:qJ p m x alt=(m,(bf m).pc+1,-1):=by rw [qJ,if_neg hs3,if_neg e58,if_neg e59,if_neg e66,if_neg e60,if_neg e61,if_neg e62,if_neg e63,if_neg e65]
          rw [er];exact aH hT [] (ts:=[(6,.int ((bf m).pc+1)),(7,.int (-1))]) (l:=[.int ((bf m).pc+1),.int (-1)]) trivial ⟨cq,cq,tt⟩ ⟨obs rfl (hg:=q0 (ah (rfl))),tt⟩ rfl rfl rfl
def OJ (L:List Int) (x:Int):Int:=if x∈L then (L.findIdx (· == x):Nat)else -1
theorem OI {L:List Int} {x:Int} {i:Nat} (hi:i<L.length) (h:L.getD i 0=x) (hn:∀ j,j<i→L.getD j 0≠x):(i:Int)=OJ L x:=by
 have hm:x∈L:=by rw [← h];simp [List.getD_eq_getElem?_getD,hi]
 rw [OJ,if_pos hm];congr 1;symm;rw [List.findIdx_eq hi];refine ⟨by simpa [List.getD_eq_getElem?_getD,hi]using h,fun j hj=>?_⟩;have hj':j<L.length:=by omega
 have:=hn j hj;simpa [List.getD_eq_getElem?_getD,hj']using this
theorem OH {L:List Int} {x:Int} (hn:∀ j,j<L.length→L.getD j 0≠x) : -1=OJ L x:=by
 rw [OJ,if_neg];intro hm;obtain ⟨j,hj,e⟩:=List.getElem_of_mem hm;exact hn j hj (by simpa [List.getD_eq_getElem?_getD,hj]using e)
theorem Ll (f:Bool) (L:List Int) (x:Int):AC Tryz.prog T aV 218 [ints f L,.int x] [] (.int (OJ L x)) []:=by
 refine aA hT Tryz.func218 rfl rfl (Nat.le_of_ble_eq_true rfl) ?_;refine WP.rowlen 0 rfl (fun hla=>?_);refine sg rfl ?_;refine sq (sq (rg [] rfl ?_));refine bk ?_;refine WP.loop (α:=Nat) (fun i=>aP [(0,ints f L),(1,.int x),(7,.int L.length),(8,.int i)] []) (fun i=>i≤L.length ∧ ∀ j,j<i→L.getD j 0≠x) (fun i=>L.length - i) ?_ ?_
 ·refine ⟨0,?_,?_⟩
  ·exact ⟨Nat.zero_le _,fun j hj=>by omega⟩
  ·refine em [] trivial ⟨cq,cq,cq,cq,tt⟩ trivial
 ·rintro i ⟨hi,hn⟩;refine sg rfl ?_;refine sq ?_;refine cd rfl (fun h2=>?_) (fun h2=>?_)
  ·have hil:i<L.length:=by simpa using h2
   refine sk (sq (bk (sq (rg [] rfl ?_))));refine sg rfl ?_;refine cd rfl (fun h4=>?_) (fun h4=>?_)
   ·have he:L.getD i 0=x:=by
     have e:(x==L.getD i 0)=true:=h4;simp at e;exact e.symm
    refine sg rfl ?_;exact WP.ret (dQ hT (by rfl) (OI hil he hn))
   ·have he:L.getD i 0≠x:=by
     have e:(x==L.getD i 0)=false:=h4;simp at e;exact fun h=>e h.symm
    refine sk (rg [] rfl ?_);refine ⟨i+1,?_,?_,?_⟩
    ·exact ⟨hil,all_succ (Q:=fun j=>L.getD j 0≠x) hn he⟩
    ·refine em [] trivial ⟨cq,cq,cq,cq,tt⟩ trivial
    ·(try simp only []);first | omega | grind
  ·have hil:i=L.length:=by simp at h2;omega
   subst hil;refine xt (sq (rg [] rfl ?_));exact WP.ret (dQ hT (by rfl) (OH hn))
theorem Dl (f:Bool) (L:List Int) (x:Int):AC Tryz.prog T aV 159 [ints f L,.int x] [] (.bool (decide (x∈L))) []:=by
 refine aA hT Tryz.func159 rfl rfl (Nat.le_of_ble_eq_true rfl) ?_;refine sg rfl ?_;refine sq (rgs [CG.pure (.int (OJ L x))] rfl ?_ ?_)
 ·have h1:=Ll f L x;exact au
 refine WP.ret ?_;change Fin ..;refine fin1 hT (by rfl) ?_;apply decide_eq_decide.2;rw [OJ];split
 ·rename_i h;exact ⟨fun _=>h,fun _=>by omega⟩
 ·rename_i h;exact ⟨fun h2=>by omega,fun h2=>absurd h2 h⟩
def Cb (p:ay) (s:PSt) (x:bI):Prop:=(0≤x.go∧x.go<6)∧oM (goI s x.go)=true∧x.alt∈lI p s x.go
instance (p:ay) (s:PSt) (x:bI):Decidable (Cb p s x):=by unfold Cb;infer_instance
def L8 (p:ay) (m:PM) (next made:Int):PM :=
 if m.over=true then m else if 0≤made then dA p (dA p (gB m { bf m with pc:=next}) m.g) made else dA p (gB m { bf m with pc:=next}) m.g
def JQ (p:ay) (s:PSt) (x:bI) (n:Int):PM×Int×Int:=qJ p (sN s x.go n) (atI p s x.go) x.alt
def yN (p:ay) (s:PSt) (x:bI) (val:Int):Evt:=⟨x.go,(goI s x.go).func,(goI s x.go).pc,(atI p s x.go).op,x.alt,val,if (atI p s x.go).op=65 then (atI p s x.go).n else 0,(eU p s x.go).map BT.t,(eU p s x.go).length⟩
def doF (p:ay) (s:PSt) (x:bI) (n:Int):PSt×Evt×Int :=
 if qG p s≠0 then (st0,C9,qG p s)else if ¬ (0≤n∧n≤4096)then (st0,C9,1)else if ¬ Cb p s x then (st0,C9,5)else
 ((L8 p (JQ p s x n).1 (JQ p s x n).2.1 (JQ p s x n).2.2).s,yN p s x (JQ p s x n).1.val,0)
theorem zeroE:(T 137).zero=lM C9:=rfl
theorem Jr {l:List Tch} {t:Tch} (h:l.length<6):(O5 l).put [l.length] (oU t)=O5 (l++[t]):=aW fun j=>by
 show (bif Nat.beq j l.length then _ else _)=_;cases hz:Nat.beq j l.length with
 | true =>
  have:=Nat.eq_of_beq_eq_true hz;subst this;simp [List.getD_eq_getElem?_getD];cases t;rfl
 | false =>
  have hne:j≠l.length:=fun e=>by subst e;simp at hz
  simp only [cond_false];show oU (l.getD j zy)=oU ((l++[t]).getD j zy)
  rcases Nat.lt_or_ge j l.length with h1 | h1
  ·simp only [List.getD_eq_getElem?_getD,List.getElem?_append_left h1]
  ·simp only [List.getD_eq_getElem?_getD,List.getElem?_eq_none (show l.length≤j by omega),List.getElem?_eq_none (show (l++[t]).length≤j by simp;omega)]
theorem Oe (e:Evt) {t:Tch} (h:e.ts.length<6):(lM e).put [7,e.ts.length] (oU t)=lM { e with ts:=e.ts++[t] }:=(aT (Nat.le_of_ble_eq_true rfl)).trans (congrArg (fun z=>bG 137 [.int e.go,.int e.a,.int e.b,.int e.op,.int e.c,.int e.val,.int e.tag,z,.int e.n]) (Jr h))
theorem Qi (e:Evt) (x:Int):(lM e).put [8] (.int x)=lM { e with n:=x}:=aT (Nat.le_of_ble_eq_true rfl)
theorem KH (e:Evt) (x:Int):(lM e).put [5] (.int x)=lM { e with val:=x}:=aT (Nat.le_of_ble_eq_true rfl)
theorem KI (e:Evt) (x:Int):(lM e).put [6] (.int x)=lM { e with tag:=x}:=aT (Nat.le_of_ble_eq_true rfl)
theorem O6 (a b c d e:Int):(((((lM C9).put [0] (.int a)).put [1] (.int b)).put [2] (.int c)).put [3] (.int d)).put [4] (.int e)=lM ⟨a,b,c,d,e,0,0,[],0⟩:=by
 rw [show (lM C9).put [0] (.int a)=lM { C9 with go:=a}from aT (Nat.le_of_ble_eq_true rfl),show (lM { C9 with go:=a}).put [1] (.int b)=lM { C9 with go:=a,a:=b}from aT (Nat.le_of_ble_eq_true rfl),
  show (lM { C9 with go:=a,a:=b}).put [2] (.int c)=lM { C9 with go:=a,a:=b,b:=c}from aT (Nat.le_of_ble_eq_true rfl),show (lM { C9 with go:=a,a:=b,b:=c}).put [3] (.int d)=lM { C9 with go:=a,a:=b,b:=c,op:=d}from aT (Nat.le_of_ble_eq_true rfl),
  show (lM { C9 with go:=a,a:=b,b:=c,op:=d}).put [4] (.int e)=lM { C9 with go:=a,a:=b,b:=c,op:=d,c:=e}from aT (Nat.le_of_ble_eq_true rfl)];rfl
theorem Fg {p:ay} {s:PSt} {g:Int} (h:eX p s g):(eU p s g).length≤5:=by
 have h1:=Jv bt0 (gY (qQ p s g)) (gY (qQ p s g)).length;have h2:(gY (qQ p s g)).length=(qQ p s g).length:=qO NS _
 have h3:=D7 h;rw [eU];omega
def jQ (p:ay) (s:PSt) (x:bI) (k:Nat):Evt:=⟨x.go,(goI s x.go).func,(goI s x.go).pc,(atI p s x.go).op,x.alt,0,0,((eU p s x.go).take k).map BT.t,k⟩
theorem Ef {s:PSt} (h:OkS s) {g n:Int} (hg:0≤g∧g<6):OkM (sN s g n):=⟨h,hg⟩
theorem Ir {p:ay} {m:PM} (h:OkM m) (x:kE) (alt:Int):OkM (qJ p m x alt).1:=by
 unfold qJ
 repeat' split
 ·exact FV h x
 ·exact Ee h _ _
 ·exact lV (lV (qm h _) _ _) _ _
 ·exact Ip h _
 ·exact KP h _
 ·exact FW h _ _
 ·exact Iq h x
 ·exact dD h _
 ·exact oC (dD h _) _
 ·exact dD h _
 ·exact h
theorem pW {p:ay} {s:PSt} (h:OkS s) (g n:Int):OkS (fU p s g n).1:=by
 unfold fU;split
 ·exact nM
 rename_i hr;have hr:fE p=true:=by simpa using hr
 split
 ·exact nM
 rename_i hv;have hv:jf p s:=by simpa using hv
 split
 ·exact nM
 rename_i hg;split
 ·exact nM
 rename_i hc;split
 ·have hfit:=(hv.2.2.2.2.1 g.toNat (by omega)).1 (by omega);have hF:Gz p (jv p (goI s g)):=(o9 hr).fn _ (by
   rw [jv,List.getD_eq_getElem?_getD,List.getElem?_eq_getElem (show (goI s g).func.toNat<p.funcs.length by have h9:0≤(goI s g).func∧(goI s g).func<p.funcs.length:=hfit.2.1;omega)];exact List.getElem_mem _)
  exact h.gB (BQ hF (g:={ goI s g with status:=1}) ⟨jB h _,hfit.2.2.1⟩).1.1
 ·exact h
theorem L9 (p:ay) (s:PSt) (g n:Int):((((T 263).zero.put [0] (aC p)).put [1] (encS s)).put [2] (.int g)).put [3] (.int n)=gG p (sN s g n):=aW fun q=>by match q with | 0 | 1 | 2 | 3 | 4 | 5 | q+6=>rfl
theorem QE (p:ay) (s:PSt) (x:bI) (n:Int) (hs:OkS s):AC Tryz.prog T aV 113 [aC p,encS s,aO x,.int n] [] (.tup [encS (doF p s x n).1,lM (doF p s x n).2.1,.int (doF p s x n).2.2]) []:=by
 refine aA hT Tryz.func113 rfl rfl (Nat.le_of_ble_eq_true rfl) ?_;refine sg rfl ?_;refine sq (sq ?_);refine WP.ent (st':=aP [(4,.rp 26 (aC p)),(5,.rp 62 (encS s)),(6,.rp 122 (aO x)),(3,.int n),(8,.ptr (.s 8 0) 1 0 []),(9,.ptr (.s 9 0) 1 0 [])] [(.s 8 0,.cells ⟨62,1,fun _=>(T 62).zero,0⟩),(.s 9 0,.cells ⟨137,1,fun _=>(T 137).zero,0⟩)]) (em [(.s 4 0,1),(.s 5 0,1),(.s 6 0,1)] ⟨sF,sF,sF,tt⟩ ⟨rq,rq,rq,cq,cq,cq,tt⟩ ⟨obs rfl,obs rfl,tt⟩) ?_;refine rgs [CG.pure (.int (qG p s))] rfl ?_ ?_
 ·have hq:=yY p s hs;exact au
 refine sg rfl ?_;refine cd rfl (fun h2=>?_) (fun h2=>?_)
 ·have ha:qG p s≠0:=by simpa using h2
  refine sg rfl ?_;refine WP.ret ?_;change Fin ..;exact xu hT rfl rfl rfl rfl rfl (ah (by rw [doF,if_pos ha];exact zeroS)) (ah (by rw [doF,if_pos ha];exact zeroE)) (by rw [doF,if_pos ha]) (hno':=qY _)
 ·have ha:¬ qG p s≠0:=by simpa using h2
  have hv:jf p s:=Rz (by simpa using ha);refine sk (sq (sq (rg [] rfl ?_)));refine cd rfl (fun h4=>?_) (fun h4=>?_)
  ·have hf:¬ (0≤n∧n≤4096):=by simp only [bor]at h4;simp at h4;omega
   refine sg rfl ?_;refine WP.ret ?_;change Fin ..;exact xu hT rfl rfl rfl rfl rfl (ah (by rw [doF,if_neg ha,if_pos hf];exact zeroS)) (ah (by rw [doF,if_neg ha,if_pos hf];exact zeroE)) (by rw [doF,if_neg ha,if_pos hf]) (hno':=qY _)
  ·have hf:0≤n∧n≤4096:=by simp only [bor]at h4;simp at h4;omega
   have hf0:¬ ¬ (0≤n∧n≤4096):=fun h=>h hf;refine sk (sq (sq (drs [CG.pure (.bool (oM (goI s x.go))),CG.pure (ints false (lI p s x.go)),CG.pure (.bool (decide (x.alt∈lI p s x.go)))] rfl ?_ ?_)))
   ·have hq1:0≤x.go∧x.go<6→_:=fun h=>xR s x.go h;have hq2:0≤x.go∧x.go<6→oM (goI s x.go)=true→_:=fun h h'=>JK p s x.go ⟨hs,hv,h',h⟩
    have hq3:=Dl false (lI p s x.go) x.alt;simp only [aj,under,CG.pure]
    repeat' with_reducible refine And.intro ?_ ?_
    all_goals (try with_reducible intros)
    all_goals (first | exact trivial | assumption | exact hq3 | (refine hq1 ?_;simp_all <;> omega) | (refine hq2 ?_ ?_ <;> simp_all <;> omega) | (simp_all;done))
   refine cd rfl (fun h6=>?_) (fun h6=>?_)
   ·have hp:¬ Cb p s x:=by
     simp only [bor]at h6;intro h;have a:=h.1;have b:=h.2.1;have c:=h.2.2
     simp only [goI]at b;rw [show decide (x.go<0)=false from decide_eq_false (by omega),show decide (x.go≥6)=false from decide_eq_false (by omega),decide_eq_true c]at h6;simp [-List.getD_eq_getElem?_getD,b]at h6
    refine sg rfl ?_;refine WP.ret ?_;change Fin ..;exact xu hT rfl rfl rfl rfl rfl (ah (by rw [doF,if_neg ha,if_neg hf0,if_pos hp];exact zeroS)) (ah (by rw [doF,if_neg ha,if_neg hf0,if_pos hp];exact zeroE)) (by rw [doF,if_neg ha,if_neg hf0,if_pos hp]) (hno':=qY _)
   ·have hp:Cb p s x:=by
     simp only [bor]at h6;simp [-List.getD_eq_getElem?_getD]at h6;exact ⟨by omega,by simp_all,by simp_all⟩
    have hp0:¬ ¬ Cb p s x:=fun h=>h hp;have hst:eX p s x.go:=⟨hs,hv,hp.2.1,hp.1⟩
    have hgo:=hp.1;refine sk (sq (rgs [CG.pure (aQ (atI p s x.go))] rfl ?_ ?_))
    ·have hq:=MK p s x.go hst;exact au
    refine sq (drs [] rfl ?_ ?_)
    ·simp [-List.getD_eq_getElem?_getD,aj,under];omega
    refine sq (sq ?_);refine WP.ent (st':=aP [(3,.int n),(4,.rp 26 (aC p)),(5,.rp 62 (encS s)),(6,.rp 122 (aO x)),(8,.ptr (.s 8 0) 1 0 []),(9,.ptr (.s 9 0) 1 0 []),(12,.rp 120 (aQ (atI p s x.go))),(13,.ptr (.s 13 0) 1 0 [])] [(.s 8 0,.cells ⟨62,1,fun _=>(T 62).zero,0⟩),(.s 9 0,.cells ⟨137,1,fun _=>(T 137).zero,0⟩),(.s 13 0,.cells ⟨137,1,fun _=>lM (jQ p s x 0),0⟩)]) ?_ ?_
    ·refine em [(.s 12 0,1)] ⟨sF,tt⟩ ⟨cq,cq,cq,cq,cq,cq,rq,cq,tt⟩ ⟨obs rfl,obs rfl,obs rfl (hg:=q0 (ah (O6 _ _ _ _ _))),tt⟩
    refine rgs [CG.pure (rowP 134 dJ bt0 (eU p s x.go))] rfl ?_ ?_
    ·have hq:=DK p s x.go hst;exact au
    refine bk ?_;refine WP.loop (α:=Nat) (fun k=>aP [(3,.int n),(4,.rp 26 (aC p)),(5,.rp 62 (encS s)),(6,.rp 122 (aO x)),(8,.ptr (.s 8 0) 1 0 []),(9,.ptr (.s 9 0) 1 0 []),(12,.rp 120 (aQ (atI p s x.go))),(13,.ptr (.s 13 0) 1 0 []),(91,rowP 134 dJ bt0 (eU p s x.go)),(92,.int (eU p s x.go).length),(93,.int k)] [(.s 8 0,.cells ⟨62,1,fun _=>(T 62).zero,0⟩),(.s 9 0,.cells ⟨137,1,fun _=>(T 137).zero,0⟩),(.s 13 0,.cells ⟨137,1,fun _=>lM (jQ p s x k),0⟩)]) (fun k=>k≤(eU p s x.go).length) (fun k=>(eU p s x.go).length - k) ?_ ?_
    ·refine ⟨0,?_,?_⟩
     ·exact Nat.zero_le _
     ·refine em [] trivial ⟨cq,cq,cq,cq,cq,cq,cq,cq,cq,cq,cq,tt⟩ ⟨obs rfl,obs rfl,obs rfl,tt⟩
    ·rintro k hk;have htl:=Fg hst
     refine sg rfl ?_;refine sq ?_;refine cd rfl (fun h11=>?_) (fun h11=>?_)
     ·have hkl:k<(eU p s x.go).length:=by simp [-List.getD_eq_getElem?_getD]at h11;omega
      have htk:(jQ p s x k).ts.length=k:=by show (((eU p s x.go).take k).map BT.t).length=k;rw [List.length_map,List.length_take];omega
      refine sk (sq (bk (sq (rgs [] rfl ?_ ?_))))
      ·simp [-List.getD_eq_getElem?_getD,aj,under];omega
      refine sq (rgs [] rfl ?_ ?_)
      ·have hk6:0≤(jQ p s x k).n∧(jQ p s x k).n<6:=by show 0≤(k:Int)∧(k:Int)<6;omega
       simp only [aj,under,CG.pure]
       repeat' with_reducible refine And.intro ?_ ?_
       all_goals (try with_reducible intros)
       all_goals (first | exact trivial | assumption | omega | exact hk6 | exact hk6.1 | exact hk6.2 | (simp;done) | grind)
      refine WP.ent (st':=aP [(3,.int n),(4,.rp 26 (aC p)),(5,.rp 62 (encS s)),(6,.rp 122 (aO x)),(8,.ptr (.s 8 0) 1 0 []),(9,.ptr (.s 9 0) 1 0 []),(12,.rp 120 (aQ (atI p s x.go))),(13,.ptr (.s 13 0) 1 0 []),(91,rowP 134 dJ bt0 (eU p s x.go)),(92,.int (eU p s x.go).length),(93,.int k)] [(.s 8 0,.cells ⟨62,1,fun _=>(T 62).zero,0⟩),(.s 9 0,.cells ⟨137,1,fun _=>(T 137).zero,0⟩),(.s 13 0,.cells ⟨137,1,fun _=>lM { jQ p s x k with ts:=(jQ p s x k).ts++[((eU p s x.go).getD k bt0).t] },0⟩)]) ?_ ?_
      ·refine em [] trivial ⟨cq,cq,cq,cq,cq,cq,cq,cq,cq,cq,cq,tt⟩ ⟨obs rfl,obs rfl,obs rfl (hg:=q0 (ah ((congrArg (fun z:Nat=>(lM (jQ p s x k)).put [7,z] (oU ((eU p s x.go).getD k bt0).t)) (show ((jQ p s x k).n).toNat=(jQ p s x k).ts.length by rw [htk];exact Int.toNat_natCast k)).trans (Oe (jQ p s x k) (by omega))))),tt⟩
      refine rg [] rfl ?_;refine rg [] rfl ?_;have e2:lM { jQ p s x k with ts:=(jQ p s x k).ts++[((eU p s x.go).getD k bt0).t],n:=(k:Int)+1}=lM (jQ p s x (k+1)):=by
       have e3:(jQ p s x k).ts++[((eU p s x.go).getD k bt0).t]=(jQ p s x (k+1)).ts:=by
        show ((eU p s x.go).take k).map BT.t++_=((eU p s x.go).take (k+1)).map BT.t;rw [List.take_add_one,List.getElem?_eq_getElem hkl,List.map_append];simp [hkl]
       rw [e3];rfl
      have hw:IntKind.i64.wrap ((jQ p s x k).n+1)=(k:Int)+1:=cu (by show _≤(k:Int)+1;omega) (by show (k:Int)+1<_;omega);refine ⟨k+1,?_,?_,?_⟩
      ·exact hkl
      ·refine em [] trivial ⟨cq,cq,cq,cq,cq,cq,cq,cq,cq,cq,cq,tt⟩ ⟨obs rfl,obs rfl,obs rfl (hg:=q0 (ah ((congrArg (fun z:Int=>(lM { jQ p s x k with ts:=(jQ p s x k).ts++[((eU p s x.go).getD k bt0).t] }).put [8] (.int z)) hw).trans ((Qi _ _).trans e2)))),tt⟩
      ·(try simp only []);first | omega | grind
     ·have hkl:k=(eU p s x.go).length:=by simp [-List.getD_eq_getElem?_getD]at h11;omega
      obtain ⟨ad,had⟩:∃ ad,JQ p s x n=ad:=⟨_,rfl⟩;have hokA:OkM ad.1:=by rw [← had];exact Ir (Ef hs hgo) _ _
      refine xt (sq (rg [] rfl ?_));refine sq ?_;refine WP.ent (st':=aP [(4,.rp 26 (aC p)),(5,.rp 62 (encS s)),(6,.rp 122 (aO x)),(8,.ptr (.s 8 0) 1 0 []),(9,.ptr (.s 9 0) 1 0 []),(12,.rp 120 (aQ (atI p s x.go))),(13,.ptr (.s 13 0) 1 0 []),(16,.ptr (.s 113 0) 1 0 [])] [(.s 8 0,.cells ⟨62,1,fun _=>(T 62).zero,0⟩),(.s 9 0,.cells ⟨137,1,fun _=>(T 137).zero,0⟩),(.s 13 0,.cells ⟨137,1,fun _=>lM (jQ p s x k),0⟩),(.s 113 0,mO p (sN s x.go n))]) ?_ ?_
      ·refine em [] trivial ⟨cq,cq,cq,cq,cq,cq,cq,cq,tt⟩ ⟨obs rfl,obs rfl,obs rfl,obs rfl (hg:=q0 (ah (L9 p s x.go n))),tt⟩
      refine rgs [⟨true,[.s 113 0],.tup [.int ad.2.1,.int ad.2.2],[mO p ad.1]⟩] rfl ?_ ?_
      ·have hq:AC Tryz.prog T aV 161 [.ptr (.b 0) 1 0 [],ren (sig [.s 113 0] 0) (aQ (atI p s x.go)),.int x.alt] (List.map (iG (sig [.s 113 0] 0)) [mO p (sN s x.go n)]) (.tup [.int ad.2.1,.int ad.2.2]) [mO p ad.1]:=by
        have hz:ren (sig [.s 113 0] 0) (aQ (atI p s x.go))=aQ (atI p s x.go):=aW (fun q=>by match q with | 0 | 1 | 2 | 3 | 4 | q+5=>rfl);rw [jy,hz,← had];exact QO p s x.go n x.alt hst hp.2.2
       have hk1:=aK [.s 113 0] p (sN s x.go n);have hk2:=aK (bs 1) p ad.1
       exact au
      refine sq ?_;refine WP.ent (st':=aP [(8,.ptr (.s 8 0) 1 0 []),(9,.ptr (.s 9 0) 1 0 []),(12,.rp 120 (aQ (atI p s x.go))),(13,.ptr (.s 13 0) 1 0 []),(16,.ptr (.s 113 0) 1 0 []),(17,.int ad.2.1),(18,.int ad.2.2)] [(.s 8 0,.cells ⟨62,1,fun _=>(T 62).zero,0⟩),(.s 9 0,.cells ⟨137,1,fun _=>(T 137).zero,0⟩),(.s 13 0,.cells ⟨137,1,fun _=>lM (jQ p s x k),0⟩),(.s 113 0,mO p ad.1)]) ?_ ?_
      ·refine em [] trivial ⟨cq,cq,cq,cq,cq,cq,cq,tt⟩ ⟨obs rfl,obs rfl,obs rfl,obs rfl (hg:=q0 (ah (fB _ _ _))),tt⟩
      refine rg [] rfl ?_;refine WP.seqJ (α:=Unit) (fun _=>aP [(8,.ptr (.s 8 0) 1 0 []),(9,.ptr (.s 9 0) 1 0 []),(13,.ptr (.s 13 0) 1 0 []),(16,.ptr (.s 113 0) 1 0 []),(17,.int ad.2.1),(18,.int ad.2.2)] [(.s 8 0,.cells ⟨62,1,fun _=>(T 62).zero,0⟩),(.s 9 0,.cells ⟨137,1,fun _=>(T 137).zero,0⟩),(.s 13 0,.cells ⟨137,1,fun _=>lM (yN p s x ad.1.val),0⟩),(.s 113 0,mO p ad.1)]) (fun _=>True) ?_ ?_
      ·refine sq ?_;have ee:∀ t:Int,lM { jQ p s x k with val:=ad.1.val,tag:=t}=lM ⟨x.go,(goI s x.go).func,(goI s x.go).pc,(atI p s x.go).op,x.alt,ad.1.val,t,(eU p s x.go).map BT.t,(eU p s x.go).length⟩:=fun t=>by
        rw [jQ,hkl,List.take_length]
       refine WP.ent (st':=aP [(8,.ptr (.s 8 0) 1 0 []),(9,.ptr (.s 9 0) 1 0 []),(12,.rp 120 (aQ (atI p s x.go))),(13,.ptr (.s 13 0) 1 0 []),(16,.ptr (.s 113 0) 1 0 []),(17,.int ad.2.1),(18,.int ad.2.2)] [(.s 8 0,.cells ⟨62,1,fun _=>(T 62).zero,0⟩),(.s 9 0,.cells ⟨137,1,fun _=>(T 137).zero,0⟩),(.s 13 0,.cells ⟨137,1,fun _=>lM { jQ p s x k with val:=ad.1.val},0⟩),(.s 113 0,mO p ad.1)]) ?_ ?_
       ·refine em [] trivial ⟨cq,cq,cq,cq,cq,cq,cq,tt⟩ ⟨obs rfl,obs rfl,obs rfl (hg:=q0 (ah (KH _ _))),obs rfl,tt⟩
       refine rg [] rfl ?_;refine cd rfl (fun h19=>?_) (fun h19=>?_)
       ·have e65:(atI p s x.go).op=65:=by simpa using h19
        refine rg [] rfl ?_;refine ⟨(),?_,?_⟩
        ·trivial
        ·refine em [] trivial ⟨cq,cq,cq,cq,cq,cq,tt⟩ ⟨obs rfl,obs rfl,obs rfl (hg:=q0 (ah ((KI _ _).trans ((ee _).trans (by rw [yN,if_pos e65]))))),obs rfl,tt⟩
       ·have e65:¬ (atI p s x.go).op=65:=by simpa using h19
        refine sk ?_;refine ⟨(),?_,?_⟩
        ·trivial
        ·refine em [] trivial ⟨cq,cq,cq,cq,cq,cq,tt⟩ ⟨obs rfl,obs rfl,obs rfl (hg:=q0 (ah ((ee 0).trans (by rw [yN,if_neg e65])))),obs rfl,tt⟩
      ·rintro _ h_inv;refine sq (sq ?_);have hge:ad.1.g.toNat<ad.1.s.gos.length:=by rw [hokA.s.gos];have:=hokA.g;omega
       refine rg [] rfl ?_;refine cd rfl (fun h21=>?_) (fun h21=>?_)
       ·have hov:¬ ad.1.over=true:=by simpa using h21
        refine sq (rgs [⟨true,[.s 113 0],.ptr (.b 0) 1 0 [1,3,ad.1.g.toNat],[mO p ad.1]⟩] rfl ?_ ?_)
        ·have hq:AC Tryz.prog T aV 162 [.ptr (.b 0) 1 0 []] (List.map (iG (sig [.s 113 0] 0)) [mO p ad.1]) (nK ad.1) [mO p ad.1]:=by rw [jy];exact Il p ad.1 hokA.g
         have hk1:=aK [.s 113 0] p ad.1;have hk2:=aK (bs 1) p ad.1
         exact au
        refine sq ?_;refine WP.ent (st':=aP [(8,.ptr (.s 8 0) 1 0 []),(9,.ptr (.s 9 0) 1 0 []),(13,.ptr (.s 13 0) 1 0 []),(16,.ptr (.s 113 0) 1 0 []),(18,.int ad.2.2)] [(.s 8 0,.cells ⟨62,1,fun _=>(T 62).zero,0⟩),(.s 9 0,.cells ⟨137,1,fun _=>(T 137).zero,0⟩),(.s 13 0,.cells ⟨137,1,fun _=>lM (yN p s x ad.1.val),0⟩),(.s 113 0,mO p (gB ad.1 { bf ad.1 with pc:=ad.2.1}))]) ?_ ?_
        ·refine em [] trivial ⟨cq,cq,cq,cq,cq,tt⟩ ⟨obs rfl,obs rfl,obs rfl,obs rfl (hg:=q0 (ah ((congrArg (fun z=>AV.put z [1,3,ad.1.g.toNat,2] (.int ad.2.1)) (fB _ _ _)).trans (D9 hge (oz _ _))))),tt⟩
        refine rgs [⟨true,[.s 113 0],.tup [],[mO p (dA p (gB ad.1 { bf ad.1 with pc:=ad.2.1}) ad.1.g)]⟩] rfl ?_ ?_
        ·have hq:AC Tryz.prog T aV 163 [.ptr (.b 0) 1 0 [],.int ad.1.g] (List.map (iG (sig [.s 113 0] 0)) [mO p (gB ad.1 { bf ad.1 with pc:=ad.2.1})]) (.tup []) [mO p (dA p (gB ad.1 { bf ad.1 with pc:=ad.2.1}) ad.1.g)]:=by
          rw [jy];exact wX p _ _ (hokA.s.gB (x:={ bf ad.1 with pc:=ad.2.1}) (jB hokA.s _))
         have hk1:=aK [.s 113 0] p (gB ad.1 { bf ad.1 with pc:=ad.2.1});have hk2:=aK (bs 1) p (dA p (gB ad.1 { bf ad.1 with pc:=ad.2.1}) ad.1.g)
         exact au
        refine sq ?_;refine WP.ent (st':=aP [(8,.ptr (.s 8 0) 1 0 []),(9,.ptr (.s 9 0) 1 0 []),(13,.ptr (.s 13 0) 1 0 []),(16,.ptr (.s 113 0) 1 0 []),(18,.int ad.2.2)] [(.s 8 0,.cells ⟨62,1,fun _=>(T 62).zero,0⟩),(.s 9 0,.cells ⟨137,1,fun _=>(T 137).zero,0⟩),(.s 13 0,.cells ⟨137,1,fun _=>lM (yN p s x ad.1.val),0⟩),(.s 113 0,mO p (dA p (gB ad.1 { bf ad.1 with pc:=ad.2.1}) ad.1.g))]) ?_ ?_
        ·refine em [] trivial ⟨cq,cq,cq,cq,cq,tt⟩ ⟨obs rfl,obs rfl,obs rfl,obs rfl (hg:=q0 (ah (fB _ _ _))),tt⟩
        refine rg [] rfl ?_;refine cd rfl (fun h24=>?_) (fun h24=>?_)
        ·have hmd:0≤ad.2.2:=of_decide_eq_true h24;refine rgs [⟨true,[.s 113 0],.tup [],[mO p (dA p (dA p (gB ad.1 { bf ad.1 with pc:=ad.2.1}) ad.1.g) ad.2.2)]⟩] rfl ?_ ?_
         ·have hq:AC Tryz.prog T aV 163 [.ptr (.b 0) 1 0 [],.int ad.2.2] (List.map (iG (sig [.s 113 0] 0)) [mO p (dA p (gB ad.1 { bf ad.1 with pc:=ad.2.1}) ad.1.g)]) (.tup []) [mO p (dA p (dA p (gB ad.1 { bf ad.1 with pc:=ad.2.1}) ad.1.g) ad.2.2)]:=by
           rw [jy];exact wX p _ _ (pW (hokA.s.gB (x:={ bf ad.1 with pc:=ad.2.1}) (jB hokA.s _)) _ _)
          have hk1:=aK [.s 113 0] p (dA p (gB ad.1 { bf ad.1 with pc:=ad.2.1}) ad.1.g);have hk2:=aK (bs 1) p (dA p (dA p (gB ad.1 { bf ad.1 with pc:=ad.2.1}) ad.1.g) ad.2.2)
          exact au
         refine sq (dr [] rfl ?_);refine WP.ret ?_;change Fin ..;have er:L8 p ad.1 ad.2.1 ad.2.2=dA p (dA p (gB ad.1 { bf ad.1 with pc:=ad.2.1}) ad.1.g) ad.2.2:=by rw [L8,if_neg hov,if_pos hmd]
         have ed:doF p s x n=((dA p (dA p (gB ad.1 { bf ad.1 with pc:=ad.2.1}) ad.1.g) ad.2.2).s,yN p s x ad.1.val,0):=by rw [doF,if_neg ha,if_neg hf0,if_neg hp0,had,er]
         rw [ed];exact xu hT rfl rfl rfl rfl rfl (ah (KC _ _)) (ah rfl) rfl (hno':=qY _)
        ·have hmd:¬ 0≤ad.2.2:=of_decide_eq_false h24;refine sk (sq (dr [] rfl ?_));refine WP.ret ?_;change Fin ..;have er:L8 p ad.1 ad.2.1 ad.2.2=dA p (gB ad.1 { bf ad.1 with pc:=ad.2.1}) ad.1.g:=by rw [L8,if_neg hov,if_neg hmd]
         have ed:doF p s x n=((dA p (gB ad.1 { bf ad.1 with pc:=ad.2.1}) ad.1.g).s,yN p s x ad.1.val,0):=by rw [doF,if_neg ha,if_neg hf0,if_neg hp0,had,er]
         rw [ed];exact xu hT rfl rfl rfl rfl rfl (ah (rfl)) (ah rfl) rfl (hno':=qY _)
       ·have hov:ad.1.over=true:=by simpa using h21
        refine sk (sq (dr [] rfl ?_));refine WP.ret ?_;change Fin ..;have er:L8 p ad.1 ad.2.1 ad.2.2=ad.1:=by rw [L8,if_pos hov]
        have ed:doF p s x n=((ad.1).s,yN p s x ad.1.val,0):=by rw [doF,if_neg ha,if_neg hf0,if_neg hp0,had,er]
        rw [ed];exact xu hT rfl rfl rfl rfl rfl (ah (rfl)) (ah rfl) rfl (hno':=qY _)
structure iy where
 steps:Int
 fuel:Int
 runs:Int
def bK (b:iy):AV:=bG 28 [.int b.steps,.int b.fuel,.int b.runs]
def JZ (b:iy):Prop:=(0≤b.steps∧b.steps≤256)∧(0≤b.fuel∧b.fuel≤4096)∧(0≤b.runs∧b.runs≤65536)
instance (b:iy):Decidable (JZ b):=by unfold JZ;infer_instance
def inB (n m:Int):Bool:=decide (0≤n∧n≤m)
theorem yK (n m:Int):AC Tryz.prog T aV 112 [.int n,.int m] [] (.bool (inB n m)) []:=by
 refine aA hT Tryz.func112 rfl rfl (Nat.le_of_ble_eq_true rfl) ?_;refine sg rfl ?_;refine sg rfl ?_;refine WP.ret ?_;change Fin ..;refine fin1 hT (by rfl) ?_;simp only [band];rw [inB,Bool.eq_iff_iff];simp
def dP (p:ay) (n:Int) (b:iy):Int:=if fE p=false then 3 else if 256<n then 2 else if ¬ JZ b then 6 else 0
theorem N8 (p:ay) (n:Int) (b:iy):AC Tryz.prog T aV 66 [aC p,.int n,bK b] [] (.int (dP p n b)) []:=by
 refine aA hT Tryz.func66 rfl rfl (Nat.le_of_ble_eq_true rfl) ?_;refine sg rfl ?_;refine sq (sq ?_);refine WP.ent (st':=aP [(3,.rp 26 (aC p)),(5,.rp 28 (bK b)),(1,.int n)] []) (em [(.s 3 0,1),(.s 5 0,1)] ⟨sF,sF,tt⟩ ⟨rq,rq,cq,tt⟩ trivial) ?_;refine rgs [CG.pure (xG p)] rfl ?_ ?_
 ·have hq:=uJ p;exact au
 refine sg rfl ?_;refine cd rfl (fun h2=>?_) (fun h2=>?_)
 ·have hr:fE p=false:=by simp at h2;simp [fE];exact h2
  refine sg rfl ?_;exact WP.ret (dQ hT (by rfl) (by rw [dP,if_pos hr]))
 ·have hr:¬ fE p=false:=by simp at h2;simp [fE];exact h2
  refine sk (sq (sq (rg [] rfl ?_)));refine cd rfl (fun h4=>?_) (fun h4=>?_)
  ·have hn:256<n:=by simpa using h4
   refine sg rfl ?_;exact WP.ret (dQ hT (by rfl) (by rw [dP,if_neg hr,if_pos hn]))
  ·have hn:¬ 256<n:=by simp at h4;omega
   refine sk (sq (rg [] rfl ?_));refine sq (sq (rgs [CG.pure (.bool (inB b.steps 256)),CG.pure (.bool (inB b.fuel 4096)),CG.pure (.bool (inB b.runs 65536))] rfl ?_ ?_))
   ·have hq1:=yK b.steps 256;have hq2:=yK b.fuel 4096
    have hq3:=yK b.runs 65536;exact au
   refine cd rfl (fun h7=>?_) (fun h7=>?_)
   ·have hb:¬ JZ b:=by simp only [bor,inB]at h7;intro ⟨a,c,d⟩;simp at h7;omega
    refine sg rfl ?_;exact WP.ret (dQ hT (by rfl) (by rw [dP,if_neg hr,if_neg hn,if_pos hb]))
   ·have hb:¬ ¬ JZ b:=fun h=>h (by simp only [bor,inB]at h7;simp at h7;exact ⟨by omega,by omega,by omega⟩);refine sk (sq (rg [] rfl ?_));exact WP.ret (dQ hT (by rfl) (by rw [dP,if_neg hr,if_neg hn,if_neg hb]))
theorem LQ {p:ay} {n:Int} {b:iy} (h:dP p n b=0):fE p=true∧n≤256∧JZ b:=by
 unfold dP at h;split at h
 ·cases h
 rename_i h1;split at h
 ·cases h
 rename_i h2;split at h
 ·cases h
 rename_i h3;exact ⟨by simpa using h1,by omega,by simpa using h3⟩
theorem Kz (x:bI) (n:Int):AC Tryz.prog T aV 175 [aO x,.rp 3 (.int n)] [] (.bool (x.go==n)) []:=by
 refine aA hT Tryz.func175 rfl rfl (Nat.le_of_ble_eq_true rfl) ?_;refine sg rfl ?_;refine sg rfl ?_;exact WP.ret (fin1 hT (by rfl) rfl)
def jO (l:List bI) (n:Int):Int:=if l.any (fun x=>x.go==n)then (l.findIdx (fun x=>x.go==n):Nat)else -1
theorem LH {l:List bI} {n:Int} {i:Nat} (hi:i<l.length) (h:((l.getD i dN).go==n)=true) (hn:∀ j,j<i→((l.getD j dN).go==n)=false):jO l n=i:=by
 have e:l.getD i dN=l[i]:=by simp [hi]
 have hm:l.any (fun x=>x.go==n)=true:=List.any_eq_true.2 ⟨l[i],List.getElem_mem hi,by rw [← e];exact h⟩;rw [jO,if_pos hm];congr 1;rw [List.findIdx_eq hi];refine ⟨by rw [← e];exact h,fun j hj=>?_⟩;have:=hn j hj
 have hj':j<l.length:=by omega
 rwa [List.getD_eq_getElem?_getD,List.getElem?_eq_getElem hj']at this
theorem LD {l:List bI} {n:Int} (hn:∀ j,j<l.length→((l.getD j dN).go==n)=false):jO l n = -1:=by
 rw [jO,if_neg];rw [List.any_eq_true];rintro ⟨x,hx,h⟩;obtain ⟨j,hj,e⟩:=List.getElem_of_mem hx;have:=hn j hj
 rw [List.getD_eq_getElem?_getD,List.getElem?_eq_getElem hj,Option.getD_some,e]at this;rw [this]at h;cases h
abbrev vW (n:Int):Ob := .cells ⟨3,1,fun _ => .int n,0⟩
theorem H7 (g:Bool) (l:List bI) (n:Int):AC Tryz.prog T aV 174 [.row 122 g l.length (fun i=>aO (l.getD i dN)),.clo 175 [.ptr (.b 0) 1 0 []]] [vW n] (.int (jO l n)) [vW n]:=by
 refine aA hT Tryz.func174 rfl rfl (Nat.le_of_ble_eq_true rfl) ?_;refine WP.rowlen 0 rfl (fun hl=>?_);refine sg rfl ?_;refine sq (sq (rg [] rfl ?_));refine bk ?_;refine WP.loop (α:=Nat) (fun i=>aP [(0,.row 122 g l.length (fun i=>aO (l.getD i dN))),(1,.clo 175 [.ptr (.b 0) 1 0 []]),(7,.int l.length),(8,.int i)] [(.b 0,vW n)]) (fun i=>i≤l.length ∧ ∀ j,j<i→((l.getD j dN).go==n)=false) (fun i=>l.length - i) ?_ ?_
 ·refine ⟨0,?_,?_⟩
  ·exact ⟨Nat.zero_le _,fun j hj=>by omega⟩
  ·refine em [] trivial ⟨cq,cq,cq,cq,tt⟩ ⟨obs rfl,tt⟩
 ·rintro i ⟨hi,hn⟩;refine sg rfl ?_;refine sq ?_;refine cd rfl (fun h2=>?_) (fun h2=>?_)
  ·have hil:i<l.length:=by simpa using h2
   refine sk (sq (bk (sq (rg [] rfl ?_))));refine sq (rgs [CG.pure (.bool ((l.getD i dN).go==n))] rfl ?_ ?_)
   ·have hq:=Kz (l.getD i dN) n;have hil2:0≤(i:Int)∧(i:Int)<(l.length:Int):=by omega
    simp only [aj,under,CG.pure]
    repeat' with_reducible refine And.intro ?_ ?_
    all_goals (try with_reducible intros)
    all_goals (first | exact trivial | assumption | omega | exact hq | exact hil2 | exact hil2.1 | exact hil2.2 | exact rfl | (simp;done) | grind)
   refine cd rfl (fun h4=>?_) (fun h4=>?_)
   ·refine sg rfl ?_;refine WP.ret ?_;change Fin ..;refine aH hT [] (ts:=[(4,.int (jO l n))]) (l:=[.int (jO l n)]) trivial ⟨⟨rfl,_,rfl,ah (congrArg AV.int (LH hil h4 hn).symm)⟩,tt⟩ ⟨obs rfl,tt⟩ rfl rfl rfl
   ·refine sk (rg [] rfl ?_);refine ⟨i+1,?_,?_,?_⟩
    ·exact ⟨hil,all_succ (Q:=fun j=>((l.getD j dN).go==n)=false) hn h4⟩
    ·refine em [] trivial ⟨cq,cq,cq,cq,tt⟩ ⟨obs rfl,tt⟩
    ·(try simp only []);first | omega | grind
  ·have hil:i=l.length:=by simp at h2;omega
   subst hil;refine xt (sq (rg [] rfl ?_));refine WP.ret ?_;change Fin ..;refine aH hT [] (ts:=[(4,.int (jO l n))]) (l:=[.int (jO l n)]) trivial ⟨⟨rfl,_,rfl,ah (congrArg AV.int (LD hn).symm)⟩,tt⟩ ⟨obs rfl,tt⟩ rfl rfl rfl
def zM (l:List bI):Nat→Int→bI×Int
 | 0,n=>(dN,n)
 | k+1,n=>if 0≤jO l ((n+1) % 6)then (l.getD (jO l ((n+1) % 6)).toNat dN,((n+1) % 6))else zM l k ((n+1) % 6)
theorem H8 (l:List bI):∀ (k:Nat) (n:Int),0≤n∧n<6→0≤(zM l k n).2∧(zM l k n).2<6
 | 0,n,h=>h
 | k+1,n,h=>by
  have h1:0≤((n+1) % 6)∧((n+1) % 6)<6:=by omega
  rw [zM];split
  ·exact h1
  ·exact H8 l k _ h1
theorem I7 {l:List bI} {n:Int} {x:bI} (hx:x∈l) (h:x.go=n):0≤jO l n:=by
 have hm:l.any (fun x=>x.go==n)=true:=List.any_eq_true.2 ⟨x,hx,beq_iff_eq.2 h⟩;rw [jO,if_pos hm];omega
theorem LG {l:List bI} {n:Int} (h:0≤jO l n):(jO l n).toNat<l.length:=by
 unfold jO at h ⊢;split at h
 ·rename_i hm;rw [if_pos hm,Int.toNat_natCast];obtain ⟨x,hx,hp⟩:=List.any_eq_true.1 hm;exact List.findIdx_lt_length_of_exists ⟨x,hx,hp⟩
 ·omega
theorem H6 (i:Int) (l:List bI) (n:Int) (hn:0≤n∧n<6) (hl:l≠[]) (hg:∀ x∈l,0≤x.go∧x.go<6):AC Tryz.prog T aV 173 [.int i,eG l,.ptr (.b 0) 1 0 []] [vW n] (.tup [aO (zM l 6 n).1,.bool true]) [vW (zM l 6 n).2]:=by
 refine aA hT Tryz.func173 rfl rfl (Nat.le_of_ble_eq_true rfl) ?_;refine WP.rowlen 1 rfl (fun hll=>?_);refine sg rfl ?_;refine bk ?_;refine WP.loop (α:=Nat×Int) (fun (⟨k,m⟩:Nat×Int)=>aP [(1,eG l),(2,.ptr (.b 0) 1 0 []),(5,.ptr (.s 5 0) 1 0 [])] [(.b 0,vW m),(.s 5 0,.cells ⟨122,1,fun _=>aO dN,0⟩)]) (fun (⟨k,m⟩:Nat×Int)=>zM l k m=zM l 6 n∧(0≤m∧m<6) ∧ ∃ x∈l,∃ j:Nat,j<k∧x.go=(m+1+j) % 6) (fun (⟨k,m⟩:Nat×Int)=>k) ?_ ?_
 ·refine ⟨⟨6,n⟩,?_,?_⟩
  ·obtain ⟨x,hx⟩:=List.exists_mem_of_ne_nil l hl;have:=hg x hx
   refine ⟨rfl,hn,x,hx,((x.go - n - 1) % 6).toNat,by omega,by omega⟩
  ·refine em [] trivial ⟨cq,cq,cq,tt⟩ ⟨obs rfl,obs rfl,tt⟩
 ·rintro ⟨k,m⟩ ⟨hr,hm,x,hx,j,hj,hxg⟩;obtain ⟨k,rfl⟩:∃ k',k=k'+1:=⟨k - 1,by omega⟩;have hw:IntKind.i64.wrap (m+1)=m+1:=cu (by omega) (by omega)
  have hm2:0≤((m+1) % 6)∧((m+1) % 6)<6:=by omega
  refine bk (sq (rg [] rfl ?_));refine sq ?_;refine WP.ent (st':=aP [(1,eG l),(2,.ptr (.b 0) 1 0 []),(5,.ptr (.s 5 0) 1 0 [])] [(.b 0,vW ((m+1) % 6)),(.s 5 0,.cells ⟨122,1,fun _=>aO dN,0⟩)]) ?_ ?_
  ·refine em [] trivial ⟨cq,cq,cq,tt⟩ ⟨obs rfl (hg:=q0 (ah ((congrArg (fun z:Int=>AV.int (z.tmod 6)) hw).trans (congrArg AV.int (Int.tmod_eq_emod_of_nonneg (by omega)))))),obs rfl,tt⟩
  refine rgs [⟨true,[.b 0],.int (jO l ((m+1) % 6)),[vW ((m+1) % 6)]⟩] rfl ?_ ?_
  ·have hq:=H7 false l ((m+1) % 6);have hk1:lg [.b 0] [vW ((m+1) % 6)]:=⟨fun _ _=>rfl,tt⟩
   have hk2:lg (bs 1) [vW ((m+1) % 6)]:=⟨fun _ _=>rfl,tt⟩;exact au
  refine sg rfl ?_;refine cd rfl (fun h3=>?_) (fun h3=>?_)
  ·have hp:0≤jO l ((m+1) % 6):=by simpa using h3
   have hpl:=LG hp;refine sq (rgs [] rfl ?_ ?_)
   ·have hpl2:0≤jO l ((m+1) % 6)∧jO l ((m+1) % 6)<(l.length:Int):=by omega
    simp only [aj,under,CG.pure]
    repeat' with_reducible refine And.intro ?_ ?_
    all_goals (try with_reducible intros)
    all_goals (first | exact trivial | assumption | omega | exact hpl2 | exact hpl2.1 | exact hpl2.2 | (simp;done) | grind)
   refine WP.ret ?_;change Fin ..;have er:zM l 6 n=(l.getD (jO l ((m+1) % 6)).toNat dN,((m+1) % 6)):=by rw [← hr,zM,if_pos hp]
   rw [er];refine aH hT [(.s 5 0,1)] (ts:=[(5,.rp 122 (aO (l.getD (jO l ((m+1) % 6)).toNat dN))),(6,.bool true)]) (l:=[aO (l.getD (jO l ((m+1) % 6)).toNat dN),.bool true]) ⟨sF,tt⟩ ⟨⟨rfl,_,rfl,rpv (hF:=by simp [eH,aN])⟩,cq,tt⟩ ⟨obs rfl,tt⟩ rfl rfl rfl
  ·have hp:¬ 0≤jO l ((m+1) % 6):=by simpa using h3
   refine sk ?_;refine ⟨⟨k,((m+1) % 6)⟩,?_,?_,?_⟩
   ·rw [zM,if_neg hp]at hr;refine ⟨hr,hm2,x,hx,?_⟩;rcases Nat.eq_zero_or_pos j with h0 | h0
    ·exact absurd (I7 hx (by omega)) hp
    ·exact ⟨j - 1,by omega,by omega⟩
   ·refine em [] trivial ⟨cq,cq,cq,tt⟩ ⟨obs rfl,obs rfl,tt⟩
   ·(try simp only []);first | omega | grind
theorem QD {p:ay} {s:PSt} {x:bI} {n:Int} (h:OkS s):OkS (doF p s x n).1:=by
 unfold doF;split
 ·exact nM
 split
 ·exact nM
 split
 ·exact nM
 rename_i hp;have hp:Cb p s x:=by simpa using hp
 have h1:OkM (JQ p s x n).1:=Ir (Ef h hp.1) _ _;have h2:OkS (gB (JQ p s x n).1 { bf (JQ p s x n).1 with pc:=(JQ p s x n).2.1}).s:=h1.s.gB (x:={ bf (JQ p s x n).1 with pc:=(JQ p s x n).2.1}) (jB h1.s _)
 show OkS (L8 p _ _ _).s;unfold L8;split
 ·exact h1.s
 split
 ·exact pW (pW h2 _ _) _ _
 ·exact pW h2 _ _
theorem DL {p:ay} {n:Int}:OkS (dV p n).1:=by
 unfold dV;split
 ·exact nM
 rename_i hr;split
 ·exact nM
 have hp:=o9 (by simpa using hr);have hF:Gz p (bn p 0):=hp.fn _ (by rw [bn,List.getD_eq_getElem?_getD,List.getElem?_eq_getElem (show 0<p.funcs.length by have:=hp.funcs;omega)];exact List.getElem_mem _)
 refine ⟨wZ _ _,rfl,rfl,rfl,nM.ch,fun g hg=>?_⟩;rcases List.mem_cons.1 hg with h1 | h1
 ·rw [h1];exact (BQ hF (Qx hp)).1.1
 ·exact nM.go g (List.mem_cons_of_mem _ h1)
theorem KE {p:ay} {s:PSt} {x:bI} (h:x∈aS p s):x.go∈fJ s∧x.alt∈lI p s x.go∧qG p s=0:=by
 unfold aS at h;split at h
 ·rename_i ha;obtain ⟨g,h1,h2⟩:=List.mem_flatMap.1 h;obtain ⟨a,h3,rfl⟩:=List.mem_map.1 h2;exact ⟨h1,h3,ha⟩
 ·cases h
theorem KF {p:ay} {s:PSt} {x:bI} (h:x∈aS p s):0≤x.go∧x.go<6:=by
 obtain ⟨j,h1,h2,_⟩:=oG.1 (KE h).1;omega
def jY (p:ay) (n:Int):Nat→PSt→Int→List bI×Int
 | 0,s,m=>([],m)
 | k+1,s,m=>if aS p s=[]then ([],m)else
  ((zM (aS p s) 6 m).1::(jY p n k (doF p s (zM (aS p s) 6 m).1 n).1 (zM (aS p s) 6 m).2).1,(jY p n k (doF p s (zM (aS p s) 6 m).1 n).1 (zM (aS p s) 6 m).2).2)
theorem x9 (σ:Id→Id) (x:bI):ren σ (aO x)=aO x:=aW (fun q=>by match q with | 0 | 1 | q+2=>rfl)
theorem Dv (p:ay) (b:iy) (n:Int) (hn:0≤n∧n<6) (hb:0≤b.steps∧b.steps≤256):AC Tryz.prog T aV 67 [aC p,bK b,.clo 173 [.ptr (.b 0) 1 0 []]] [vW n] (eG (jY p b.fuel b.steps.toNat (dV p b.fuel).1 n).1) [vW (jY p b.fuel b.steps.toNat (dV p b.fuel).1 n).2]:=by
 refine aA hT Tryz.func67 rfl rfl (Nat.le_of_ble_eq_true rfl) ?_;refine sg rfl ?_;refine sq ?_;refine WP.ent (st':=aP [(2,.clo 173 [.ptr (.b 0) 1 0 []]),(3,.rp 26 (aC p)),(4,.rp 28 (bK b))] [(.b 0,vW n)]) ?_ ?_
 ·refine em [(.s 3 0,1),(.s 4 0,1)] ⟨sF,sF,tt⟩ ⟨cq,rq,rq,tt⟩ ⟨obs rfl,tt⟩
 refine rgs [CG.pure (.tup [encS (dV p b.fuel).1,.int (dV p b.fuel).2])] rfl ?_ ?_
 ·have hq:=DN p b.fuel;exact au
 refine sg rfl ?_;refine sq (bk ?_);refine WP.loop (α:=List bI×PSt×Int) (fun (⟨acc,s,m⟩:List bI×PSt×Int)=>aP [(2,.clo 173 [.ptr (.b 0) 1 0 []]),(3,.rp 26 (aC p)),(4,.rp 28 (bK b)),(7,.ptr (.s 7 0) 1 0 []),(9,.own (.s 58 0) acc.length 0 acc.length none)] [(.b 0,vW m),(.s 7 0,.cells ⟨62,1,fun _=>encS s,0⟩),(.s 58 0,bJ 122 aO dN acc)]) (fun (⟨acc,s,m⟩:List bI×PSt×Int)=>OkS s∧(0≤m∧m<6)∧acc.length≤b.steps.toNat∧acc++(jY p b.fuel (b.steps.toNat - acc.length) s m).1=(jY p b.fuel b.steps.toNat (dV p b.fuel).1 n).1∧(jY p b.fuel (b.steps.toNat - acc.length) s m).2=(jY p b.fuel b.steps.toNat (dV p b.fuel).1 n).2) (fun (⟨acc,s,m⟩:List bI×PSt×Int)=>b.steps.toNat - acc.length) ?_ ?_
 ·refine ⟨⟨[],(dV p b.fuel).1,n⟩,?_,?_⟩
  ·exact ⟨DL,hn,Nat.zero_le _,rfl,rfl⟩
  ·refine em [] trivial ⟨cq,cq,cq,cq,⟨rfl,_,rfl,jc⟩,tt⟩ ⟨obs rfl,obs rfl,⟨fun _ _=>rfl,.inr ⟨rfl,122,_,rfl,by decide⟩⟩,tt⟩
 ·rintro ⟨acc,s,m⟩ ⟨hs,hm,hal,hr1,hr2⟩;refine sq (sq (rg [] rfl ?_));refine cd rfl (fun h3=>?_) (fun h3=>?_)
  ·have hlt:acc.length<b.steps.toNat:=by simp [-List.getD_eq_getElem?_getD]at h3;omega
   have hk:b.steps.toNat - acc.length=(b.steps.toNat - (acc.length+1))+1:=by omega
   refine sk (bk (sq (rgs [CG.pure (.tup [eG (aS p s),.int (qG p s)])] rfl ?_ ?_)))
   ·have hq:=zN p s hs;exact au
   refine sq (sq (rg [] rfl ?_));refine cd rfl (fun h5=>?_) (fun h5=>?_)
   ·have hz:aS p s=[]:=List.eq_nil_of_length_eq_zero (by simp [-List.getD_eq_getElem?_getD]at h5;simpa using h5);refine xt (sq (rg [] rfl ?_));refine WP.ret ?_;change Fin ..;rw [hk,jY,if_pos hz]at hr1 hr2;simp only [List.append_nil]at hr1;rw [← hr1,← hr2];refine aH hT [(.s 58 0,acc.length)] (ts:=[(6,eG acc)]) (l:=[eG acc]) ⟨⟨_,rfl,Nat.le_refl _⟩,tt⟩ ⟨⟨rfl,_,rfl,?_⟩,tt⟩ ⟨obs rfl,tt⟩ rfl rfl rfl;exact jm rfl rfl rfl (fun h=>by cases h) (by simp [eH,aN]) (fun q hq=>by rw [Nat.zero_add];exact ⟨rfl,AEq.refl _⟩)
   ·have hz:¬ aS p s=[]:=fun e=>by rw [e]at h5;cases h5
    obtain ⟨r,hr⟩:∃ r,zM (aS p s) 6 m=r:=⟨_,rfl⟩;have hrb:0≤r.2∧r.2<6:=by rw [← hr];exact H8 _ _ _ hm
    refine sk (sq (rgs [⟨true,[.b 0],.tup [aO r.1,.bool true],[vW r.2]⟩] rfl ?_ ?_))
    ·have hq:=H6 acc.length (aS p s) m hm hz (fun x hx=>KF hx);rw [hr]at hq;have hk1:lg [.b 0] [vW m]:=⟨fun _ _=>rfl,tt⟩
     have hk2:lg (bs 1) [vW r.2]:=⟨fun _ _=>rfl,tt⟩;exact au
    refine sq (sq (rg [] rfl ?_));refine cd rfl (fun h7=>?_) (fun h7=>?_)
    ·cases h7
    ·refine sk (sq ?_);refine WP.ent (st':=aP [(2,.clo 173 [.ptr (.b 0) 1 0 []]),(3,.rp 26 (aC p)),(4,.rp 28 (bK b)),(7,.ptr (.s 7 0) 1 0 []),(9,.own (.s 58 0) acc.length 0 acc.length none),(12,.rp 122 (aO r.1))] [(.b 0,vW r.2),(.s 7 0,.cells ⟨62,1,fun _=>encS s,0⟩),(.s 58 0,bJ 122 aO dN acc)]) ?_ ?_
     ·refine em [(.s 12 0,1)] ⟨sF,tt⟩ ⟨cq,cq,cq,cq,cq,⟨rfl,_,rfl,eY rfl rfl (by decide) rfl (x9 _ _) rfl⟩,tt⟩ ⟨obs rfl,obs rfl,bM (lq _) rfl rfl rfl rfl rfl (fun q hq=>rfl),tt⟩
     refine rgs [CG.pure (.tup [encS (doF p s r.1 b.fuel).1,lM (doF p s r.1 b.fuel).2.1,.int (doF p s r.1 b.fuel).2.2])] rfl ?_ ?_
     ·have hq:=QE p s r.1 b.fuel hs;exact au
     refine rgs [] rfl ?_ ?_
     ·have hbt:(T 122).bytes=16:=rfl;simp [aj,under,hbt];omega
     refine ⟨⟨acc++[r.1],(doF p s r.1 b.fuel).1,r.2⟩,?_,?_,?_⟩
     ·rw [hk,jY,if_neg hz,hr]at hr1 hr2;refine ⟨QD hs,hrb,by rw [fK];omega,?_,?_⟩
      ·rw [← hr1,fK,List.append_assoc];rfl
      ·rw [← hr2,fK]
     ·refine em [] trivial ⟨cq,cq,cq,cq,⟨rfl,_,rfl,ah (by rw [fK])⟩,tt⟩ ⟨obs rfl,obs rfl,bM (lq _) rfl rfl (by rw [fK]) rfl rfl (QV (z:=(T 122).zero) rfl rfl (fun q hq=>rfl)),tt⟩
     ·(show b.steps.toNat - (acc++[r.1]).length<b.steps.toNat - acc.length;rw [fK];omega)
  ·have hlt:acc.length=b.steps.toNat:=by simp [-List.getD_eq_getElem?_getD]at h3;omega
   refine xt (sq (rg [] rfl ?_));refine WP.ret ?_;change Fin ..;rw [hlt,Nat.sub_self,jY]at hr1 hr2;simp only [List.append_nil]at hr1;rw [← hr1,← hr2];refine aH hT [(.s 58 0,acc.length)] (ts:=[(6,eG acc)]) (l:=[eG acc]) ⟨⟨_,rfl,Nat.le_refl _⟩,tt⟩ ⟨⟨rfl,_,rfl,?_⟩,tt⟩ ⟨obs rfl,tt⟩ rfl rfl rfl;exact jm rfl rfl rfl (fun h=>by cases h) (by simp [eH,aN]) (fun q hq=>by rw [Nat.zero_add];exact ⟨rfl,AEq.refl _⟩)
def nI (p:ay) (b:iy):List bI:=if dP p 0 b=0 then (jY p b.fuel b.steps.toNat (dV p b.fuel).1 5).1 else []
theorem DZ (p:ay) (b:iy):AC Tryz.prog T aV 118 [aC p,bK b] [] (.tup [eG (nI p b),.int (dP p 0 b)]) []:=by
 refine aA hT Tryz.func118 rfl rfl (Nat.le_of_ble_eq_true rfl) ?_;refine sg rfl ?_;refine sq (sq ?_);refine WP.ent (st':=aP [(2,.rp 26 (aC p)),(3,.rp 28 (bK b))] []) (em [(.s 2 0,1),(.s 3 0,1)] ⟨sF,sF,tt⟩ ⟨rq,rq,tt⟩ trivial) ?_;refine rgs [CG.pure (.int (dP p 0 b))] rfl ?_ ?_
 ·have hq:=N8 p 0 b;exact au
 refine sg rfl ?_;refine cd rfl (fun h2=>?_) (fun h2=>?_)
 ·have hz:dP p 0 b≠0:=by simpa using h2
  refine sg rfl ?_;refine WP.ret ?_;change Fin ..;refine aH hT [] (ts:=[(4,eG (nI p b)),(5,.int (dP p 0 b))]) (l:=[eG (nI p b),.int (dP p 0 b)]) trivial ⟨⟨rfl,_,rfl,?_⟩,cq,tt⟩ trivial rfl rfl rfl;rw [nI,if_neg hz];exact dX (by decide)
 ·have hz:dP p 0 b=0:=by simpa using h2
  have hb:=(LQ hz).2.2;refine sk (sq (rg [] rfl ?_));refine sq ?_;refine WP.ent (st':=aP [(2,.rp 26 (aC p)),(3,.rp 28 (bK b)),(7,.ptr (.s 7 0) 1 0 [])] [(.s 7 0,vW 5)]) ?_ ?_
  ·refine em [] trivial ⟨cq,cq,cq,tt⟩ ⟨obs rfl,tt⟩
  refine rgs [⟨true,[.s 7 0],eG (nI p b),[vW (jY p b.fuel b.steps.toNat (dV p b.fuel).1 5).2]⟩] rfl ?_ ?_
  ·have hq:=Dv p b 5 (by omega) hb.1;have e:nI p b=(jY p b.fuel b.steps.toNat (dV p b.fuel).1 5).1:=by rw [nI,if_pos hz]
   rw [← e]at hq;have hz1:ren (sig [.s 7 0] 0) (aC p)=aC p:=sS _ p
   have hz2:ren (sig [.s 7 0] 0) (bK b)=bK b:=aW (fun q=>by match q with | 0 | 1 | 2 | q+3=>rfl);rw [← hz1,← hz2]at hq;have hk1:lg [.s 7 0] [vW 5]:=⟨fun _ _=>rfl,tt⟩
   have hk2:lg (bs 1) [vW (jY p b.fuel b.steps.toNat (dV p b.fuel).1 5).2]:=⟨fun _ _=>rfl,tt⟩;exact au
  exact WP.ret (aH hT [] (ts:=[(4,eG (nI p b)),(5,.int (dP p 0 b))]) (l:=[eG (nI p b),.int (dP p 0 b)]) trivial ⟨cq,⟨rfl,_,rfl,ah (by rw [hz])⟩,tt⟩ trivial rfl rfl rfl)
theorem Dq (f:Bool) (l:List bI) (n:Nat) (h1:n+1<4294967296):AC Tryz.prog T aV 100 [.row 122 f (n+1) (fun i=>aO (l.getD i dN))] [] (.own (.b 0) (n+1) 0 (n+1) none) [.cells ⟨122,n+1,fun i=>aO (l.getD i dN),0⟩]:=by
 refine aA hT Tryz.func100 rfl rfl (Nat.le_of_ble_eq_true rfl) ?_;refine sg rfl ?_;refine sq (sq (rg [] rfl ?_));refine cd rfl (fun h1=>?_) (fun h1=>?_)
 ·cases h1
 ·refine sk (sq (rgs [] rfl ?_ ?_))
  ·have hbt:(T 122).bytes=16:=rfl;simp [aj,under,hbt];omega
  refine WP.ret ?_;change Fin ..;refine yL hT [] [.s 7 0] (ts:=[(2,.own (.b 0) (n+1) 0 (n+1) none)]) (l:=[.own (.b 0) (n+1) 0 (n+1) none]) trivial rfl ⟨⟨_,.own (.s 7 0) (n+1) 0 (n+1) none,rfl,ah (by simp),rfl,rfl⟩,tt⟩ ⟨.inl ⟨_,.cells ⟨122,n+1,fun i=>aO (l.getD i dN),0⟩,rfl,⟨fun i=>aO (l.getD i dN),0,?_,Nat.le_refl _,Nat.zero_le _,Nat.zero_le _,fun i hi=>ah ?_⟩,fun _ _=>rfl,?_⟩,tt⟩ rfl rfl
  ·simp
  ·exact (sZ (Nat.zero_le _) hi).trans rfl
  ·show Ob.cells ⟨122,n+1,fun i=>aO (l.getD i dN),0⟩=Ob.cells ⟨122,n+1,fun i=>ren _ (aO (l.getD i dN)),0⟩;simp only [x9]
theorem Dt (f:Bool):AC Tryz.prog T aV 100 [.row 122 f 0 (fun i=>aO (([]:List bI).getD i dN))] [] (.own (.b 0) 0 0 0 none) [bJ 122 aO dN []]:=by
 refine aA hT Tryz.func100 rfl rfl (Nat.le_of_ble_eq_true rfl) ?_;refine sg rfl ?_;refine sq (sq ?_);refine WP.nilreg (l:=[_]) (gs:=[]) hT hE rfl rfl trivial rfl rfl rfl rfl rfl rfl (fun b=>?_);refine cd rfl (fun h1=>?_) (fun h1=>?_)
 ·refine sg rfl ?_;exact WP.ret (yL hT [] [.s 7 0] (ts:=[(2,.own (.b 0) 0 0 0 none)]) (l:=[.own (.b 0) 0 0 0 none]) trivial rfl ⟨⟨_,.own (.s 7 0) 0 0 0 none,rfl,JA,rfl,rfl⟩,tt⟩ ⟨.inr ⟨rfl,122,_,rfl,Nat.lt_of_lt_of_eq (by decide) (show 2=(T 122).size from rfl)⟩,tt⟩ rfl rfl)
 ·refine sk (sq (rgs [CG.mine,CG.nop] rfl ?_ ?_))
  ·simp [aj,under]
  exact WP.ret (yL hT [] [.s 5 0] (ts:=[(2,.own (.b 0) 0 0 0 none)]) (l:=[.own (.b 0) 0 0 0 none]) trivial rfl ⟨⟨_,.own (.s 5 0) 0 0 0 none,rfl,ah rfl,rfl,rfl⟩,tt⟩ ⟨.inl ⟨_,bJ 122 aO dN [],rfl,⟨_,_,rfl,Nat.le_refl _,Nat.zero_le _,Nat.zero_le _,fun i hi=>absurd hi (Nat.not_lt_zero _)⟩,fun _ _=>rfl,(jk (x9 _)).symm⟩,tt⟩ rfl rfl)
theorem Gq (l:List bI) (h1:l.length<4294967296):AC Tryz.prog T aV 100 [eG l] [] (eG l) []:=by
 have h:AC Tryz.prog T aV 100 [eG l] [] (.own (.b 0) l.length 0 l.length none) [bJ 122 aO dN l]:=by
  cases l with
  | nil=>exact Dt false
  | cons a r=>exact Dq false (a::r) r.length (by simpa using h1)
 exact AC.ent h (Ent.mk (ms:=[]) (ts:=[(0,eG l)]) hT [(.b 0,l.length)] ⟨⟨_,rfl,Nat.le_refl _⟩,tt⟩ ⟨⟨rfl,_,rfl,jm rfl rfl rfl (fun h=>by cases h) (by simp [eH,aN]) (fun j hj=>by rw [Nat.zero_add];exact ⟨rfl,AEq.refl _⟩)⟩,tt⟩ trivial rfl)
theorem JB (l:List bI):AC Tryz.prog T aV 144 [eG l] [] (.row 122 true l.length (fun i=>aO (l.getD i dN))) []:=by
 refine aA hT Tryz.func144 rfl rfl (Nat.le_of_ble_eq_true rfl) ?_;refine sg rfl ?_;refine sg rfl ?_;refine WP.ret ?_;change Fin ..;refine aH hT [] (ts:=[(2,.row 122 true l.length (fun i=>aO (l.getD i dN)))]) (l:=[.row 122 true l.length (fun i=>aO (l.getD i dN))]) trivial ⟨⟨rfl,_,rfl,?_⟩,tt⟩ trivial rfl rfl rfl;refine ah ?_;simp [LC,slB]
structure GK where
 picks:List bI
 cut:Bool
 rep:Bool
 deriving DecidableEq
def Q9:GK:=⟨[],false,false⟩
def xA (x:GK):AV:=bG 45 [eG x.picks,.bool x.cut,.bool x.rep]
theorem Iu (ids:List Id) (x:GK):dM ids (xA x)=true:=rfl
abbrev dB (l:List GK):Ob:=bJ 45 xA Q9 l
structure TS where
 runs:List GK
 ends:List PSt
 spun:Bool
 short:Bool
 over:Bool
theorem Ib (σ:Id→Id) (b:iy):ren σ (bK b)=bK b:=aW (fun q=>by match q with | 0 | 1 | 2 | q+3=>rfl)
theorem iT (σ:Id→Id) (x:GK):ren σ (xA x)=xA x:=aW (fun q=>by match q with | 0 | 1 | 2 | q+3=>rfl)
def rJ (z:Bool) (s:PSt):Nat→Bool
 | 0=>z
 | k+1=>rJ z s k||(s.gos.getD k go0).status==5
theorem NH (l:List bI) (x:bI) (j:Nat) (hj:j<l.length+1) {g:Nat→AV} (hg:g 0=aO x):lZ l.length 1 (fun i=>aO (l.getD i dN)) g j=aO ((l++[x]).getD j dN):=by
 show (bif Nat.beq j l.length then g 0 else aO (l.getD j dN))=_;cases hz:Nat.beq j l.length with
 | true =>
  have:=Nat.eq_of_beq_eq_true hz;subst this;simp [List.getD_eq_getElem?_getD,hg]
 | false =>
  have hne:j≠l.length:=fun e=>by subst e;simp at hz
  simp only [cond_false];simp only [List.getD_eq_getElem?_getD,List.getElem?_append_left (show j<l.length by omega)]
section
variable {P:Program} {T:Nat→TI} {N:Nat}
end
def zx (f:Bool) (l:List Tch):AV := .row 134 f l.length (fun i=>oU (l.getD i zy))
def clB (x y:Tch):Bool:=x.kind==y.kind&&x.num==y.num&&(x.wr||y.wr)
def qC (a b:List Tch):Bool:=a.any fun x=>b.any fun y=>clB x y
theorem JC {a b:List Tch} {i k:Nat} (hi:i<a.length) (hk:k<b.length) (h:clB (a.getD i zy) (b.getD k zy)=true):qC a b=true:=by
 simp only [qC,List.any_eq_true];exact ⟨a[i],List.getElem_mem hi,b[k],List.getElem_mem hk,by simpa [List.getD_eq_getElem?_getD,hi,hk]using h⟩
theorem MB {a b:List Tch} (h:∀ i,i<a.length → ∀ k,k<b.length→clB (a.getD i zy) (b.getD k zy)=false):qC a b=false:=by
 simp only [qC,List.any_eq_false,List.any_eq_true,not_exists,not_and];intro x hx y hy;obtain ⟨i,hi,rfl⟩:=List.getElem_of_mem hx;obtain ⟨k,hk,rfl⟩:=List.getElem_of_mem hy;have:=h i hi k hk
 simp [List.getD_eq_getElem?_getD,hi,hk]at this;simp [this]
theorem MC (f g:Bool) (a b:List Tch):AC Tryz.prog T aV 123 [zx f a,zx g b] [] (.bool (qC a b)) []:=by
 refine aA hT Tryz.func123 rfl rfl (Nat.le_of_ble_eq_true rfl) ?_;refine WP.rowlen 0 rfl (fun hla=>?_);refine WP.rowlen 1 rfl (fun hlb=>?_);refine sg rfl ?_;refine sq (sq (rg [] rfl ?_));refine bk ?_;refine WP.loop (α:=Nat) (fun i=>aP [(1,zx g b),(9,zx f a),(10,.int a.length),(11,.int i)] []) (fun i=>i≤a.length ∧ ∀ p,p<i → ∀ q,q<b.length→clB (a.getD p zy) (b.getD q zy)=false) (fun i=>a.length - i) ?_ ?_
 ·refine ⟨0,?_,?_⟩
  ·exact ⟨Nat.zero_le _,fun p hp=>by omega⟩
  ·refine em [] trivial ⟨cq,cq,cq,cq,tt⟩ trivial
 ·rintro i ⟨hi,hn⟩;refine sg rfl ?_;refine sq ?_;refine cd rfl (fun h2=>?_) (fun h2=>?_)
  ·have hil:i<a.length:=by simpa using h2
   refine sk (sq (bk (sq (rgs [] rfl ?_ ?_))))
   ·simp [aj,under];omega
   refine sg rfl ?_;refine bk ?_;refine WP.loop (α:=Nat) (fun k=>aP [(1,zx g b),(6,.ptr (.s 6 0) 1 0 []),(9,zx f a),(10,.int a.length),(11,.int i),(15,zx g b),(16,.int b.length),(17,.int k)] [(.s 6 0,.cells ⟨134,1,fun _=>oU (a.getD i zy),0⟩)]) (fun k=>k≤b.length ∧ ∀ q,q<k→clB (a.getD i zy) (b.getD q zy)=false) (fun k=>b.length - k) ?_ ?_
   ·refine ⟨0,?_,?_⟩
    ·exact ⟨Nat.zero_le _,fun p hp=>by omega⟩
    ·refine em [] trivial ⟨cq,cq,cq,cq,cq,cq,cq,cq,tt⟩ ⟨obs rfl,tt⟩
   ·rintro k ⟨hk,hn2⟩;refine sg rfl ?_;refine sq ?_;refine cd rfl (fun h5=>?_) (fun h5=>?_)
    ·have hkl:k<b.length:=by simpa using h5
     refine sk (sq (bk (sq (rgs [] rfl ?_ ?_))))
     ·simp [aj,under];omega
     refine sg rfl ?_;refine cd rfl (fun h7=>?_) (fun h7=>?_)
     ·have hc:clB (a.getD i zy) (b.getD k zy)=true:=by
       simp only [bor,band]at h7;exact h7
      refine sg rfl ?_;exact WP.ret (fin1 hT (by rfl) (JC hil hkl hc).symm)
     ·have hc:clB (a.getD i zy) (b.getD k zy)=false:=by
       simp only [bor,band]at h7;exact h7
      refine sk (rg [] rfl ?_);refine ⟨k+1,?_,?_,?_⟩
      ·refine ⟨hkl,fun q hq=>?_⟩;rcases Nat.lt_or_ge q k with h | h
       ·exact hn2 q h
       ·obtain rfl:q=k:=by omega
        exact hc
      ·refine em [] trivial ⟨cq,cq,cq,cq,cq,cq,cq,cq,tt⟩ ⟨obs rfl,tt⟩
      ·(try simp only []);first | omega | grind
    ·have hkl:k=b.length:=by simp at h5;omega
     subst hkl;refine xt (rg [] rfl ?_);refine ⟨i+1,?_,?_,?_⟩
     ·refine ⟨hil,fun p hp=>?_⟩;rcases Nat.lt_or_ge p i with h | h
      ·exact hn p h
      ·obtain rfl:p=i:=by omega
       exact hn2
     ·refine em [] trivial ⟨cq,cq,cq,cq,tt⟩ trivial
     ·(try simp only []);first | omega | grind
  ·have hil:i=a.length:=by simp at h2;omega
   subst hil;refine xt (sq (rg [] rfl ?_));exact WP.ret (fin1 hT rfl (MB hn).symm)
theorem Jz {m:Id→Option Ob} {F:Id→Nat} (l:List BT):Conv m F T (rowP 134 dJ bt0 l) (zx false (l.map (·.t))):=by
 unfold zx;rw [List.length_map];refine qB (fun h=>h) (fun j hj=>?_);simp [dJ,List.getD_eq_getElem?_getD,hj]
def y9 (p:ay) (s:PSt) (g:Int):Int:=if qG p s≠0 then qG p s else if g<0∨6≤g then 1 else if oM (goI s g)=false then 9 else 0
def iY (p:ay) (s:PSt) (g:Int):List Tch:=if y9 p s g=0 then (eU p s g).map (·.t)else []
def lD (p:ay) (s:PSt) (z:Nat) (g:Int):Nat→Nat
 | 0=>0
 | k+1=>if z.testBit k=false∨(k:Int)=g then lD p s z g k else if qC (iY p s k) (iY p s g)=false then lD p s z g k ||| 2 ^ k else lD p s z g k
def Am (p:ay) (s:PSt) (z:Nat) (g:Int):Nat:=lD p s z g 6
theorem uU (p:ay) (s:PSt) (z:Nat) (g:Int):∀ k,lD p s z g k<2 ^ k
 | 0=>Nat.zero_lt_one
 | k+1=>by
  have h:=uU p s z g k;have h2:2 ^ k<2 ^ (k+1):=Nat.pow_lt_pow_right (by decide) (by omega)
  rw [lD];split
  ·omega
  ·split
   ·exact Nat.or_lt_two_pow (by omega) h2
   ·omega
structure SS where
 runs:List GK
 given:Nat
 over:Bool
 short:Bool
def SS.cnt (t:SS):Nat:=t.runs.length+t.given
def gK (b:iy) (t:SS):SS:={ t with over:=t.over||decide ((t.cnt:Int)≥b.runs) }
def qM (b:iy) (t:SS) (picks:List bI) (cut:Bool):SS:=if (gK b t).over=true then gK b t else { gK b t with runs:=t.runs++[⟨picks,cut,false⟩],short:=t.short||cut}
def N7 (b:iy) (t:SS):SS:=if (gK b t).over=true then gK b t else { gK b t with given:=t.given+1}
abbrev gu (t:SS) (s:PSt):SS:={ t with short:=t.short||rJ false s 6}
def oh (l:List bI) (z:Nat):Bool:=l.any fun x => !z.testBit x.go.toNat
abbrev D5 (f:bI→Nat→SS→SS) (z:Nat) (a:SS×Nat) (x:bI):SS×Nat:=if z.testBit x.go.toNat=true∨a.1.over=true then a else (f x a.2 a.1,a.2 ||| 2 ^ x.go.toNat)
def pV (p:ay) (b:iy):Nat→PSt→List bI→Nat→SS→SS
 | 0,s,picks,z,t=>if aS p s=[]then qM b (gu t s) picks false else if oh (aS p s) z=false then N7 b (gu t s)else qM b (gu t s) picks true
 | k+1,s,picks,z,t=>if aS p s=[]then qM b (gu t s) picks false else if oh (aS p s) z=false then N7 b (gu t s)else
  ((aS p s).foldl (D5 (fun x g t=>pV p b k (doF p s x b.fuel).1 (picks++[x]) (Am p s g x.go) t) z) (gu t s,z)).1
def ss0:SS:=⟨[],0,false,false⟩
def cO (p:ay) (b:iy):SS:=if dP p 0 b=0 then pV p b b.steps.toNat (dV p b.fuel).1 [] 0 ss0 else ss0
structure SLaw (b:iy) (t u:SS):Prop where
 le:t.cnt≤u.cnt
 most:(t.cnt:Int)≤b.runs→(u.cnt:Int)≤b.runs
theorem SLaw.refl {b:iy} (t:SS):SLaw b t t:=⟨Nat.le_refl _,fun h=>h⟩
theorem SLaw.trans {b:iy} {t u v:SS} (h1:SLaw b t u) (h2:SLaw b u v):SLaw b t v:=⟨Nat.le_trans h1.le h2.le,fun h=>h2.most (h1.most h)⟩
structure J3 (b:iy) (t u:SS):Prop extends SLaw b t u where
 new:(u.over=true∧(u.cnt:Int)≥b.runs)∨t.cnt<u.cnt
theorem BN {b:iy} {t:SS} {picks:List bI} {c:Bool} (h:t.over=false):J3 b t (qM b t picks c):=by
 unfold qM gK;by_cases h1:(t.cnt:Int)≥b.runs
 ·simp only [h,Bool.false_or,decide_eq_true h1,if_true];exact ⟨⟨Nat.le_refl _,fun h=>h⟩,.inl ⟨rfl,h1⟩⟩
 ·simp only [h,Bool.false_or,decide_eq_false h1];have e:SS.cnt { runs:=t.runs++[⟨picks,c,false⟩],given:=t.given,over:=false,short:=t.short||c}=t.cnt+1:=by simp [SS.cnt];omega
  exact ⟨⟨by simp only [Bool.false_eq_true,if_false];omega,fun _=>by simp only [Bool.false_eq_true,if_false];omega⟩,.inr (by simp only [Bool.false_eq_true,if_false];omega)⟩
theorem Hu {b:iy} {t:SS} (h:t.over=false):J3 b t (N7 b t):=by
 unfold N7 gK;by_cases h1:(t.cnt:Int)≥b.runs
 ·simp only [h,Bool.false_or,decide_eq_true h1,if_true];exact ⟨⟨Nat.le_refl _,fun h=>h⟩,.inl ⟨rfl,h1⟩⟩
 ·simp only [h,Bool.false_or,decide_eq_false h1];have e:SS.cnt { runs:=t.runs,given:=t.given+1,over:=false,short:=t.short}=t.cnt+1:=by simp [SS.cnt];omega
  exact ⟨⟨by simp only [Bool.false_eq_true,if_false];omega,fun _=>by simp only [Bool.false_eq_true,if_false];omega⟩,.inr (by simp only [Bool.false_eq_true,if_false];omega)⟩
theorem EL {b:iy} {f:bI→Nat→SS→SS} {z:Nat} (hf:∀ x g t,t.over=false→J3 b t (f x g t)):∀ (l:List bI) (a:SS×Nat),SLaw b a.1 (l.foldl (D5 f z) a).1∧(a.1.over=true→(l.foldl (D5 f z) a).1=a.1)
 | [],a=>⟨SLaw.refl _,fun _=>rfl⟩
 | x::r,a=>by
  rw [List.foldl_cons];have ih:=EL (z:=z) hf r (D5 f z a x)
  by_cases h:z.testBit x.go.toNat=true∨a.1.over=true
  ·have e:D5 f z a x=a:=if_pos h;rw [e]at ih ⊢;exact ih
  ·have e:D5 f z a x=(f x a.2 a.1,a.2 ||| 2 ^ x.go.toNat):=if_neg h;rw [e]at ih ⊢;have ho:a.1.over=false:=by simpa using fun e=>h (.inr e)
   exact ⟨(hf x a.2 a.1 ho).toSLaw.trans ih.1,fun e=>by rw [ho]at e;cases e⟩
theorem EK {b:iy} {f:bI→Nat→SS→SS} {z:Nat} (hf:∀ x g t,t.over=false→J3 b t (f x g t)):∀ (l:List bI) (a:SS×Nat),a.1.over=false→oh l z=true→J3 b a.1 (l.foldl (D5 f z) a).1
 | [],a,_,h=>by simp [oh]at h
 | x::r,a,ho,h=>by
  rw [List.foldl_cons];by_cases hz:z.testBit x.go.toNat=true
  ·have e:D5 f z a x=a:=if_pos (.inl hz);rw [e];exact EK hf r a ho (by simpa [oh,hz]using h)
  ·have e:D5 f z a x=(f x a.2 a.1,a.2 ||| 2 ^ x.go.toNat):=if_neg (by simp [hz,ho]);rw [e];have h1:=hf x a.2 a.1 ho
   have h2:=EL (z:=z) hf r (f x a.2 a.1,a.2 ||| 2 ^ x.go.toNat);refine ⟨h1.toSLaw.trans h2.1,?_⟩;rcases h1.new with h3 | h3
   ·rw [h2.2 h3.1];exact .inl h3
   ·exact .inr (Nat.lt_of_lt_of_le h3 h2.1.le)
theorem Hl {p:ay} {b:iy}:∀ (k:Nat) (s:PSt) (picks:List bI) (z:Nat) (t:SS),t.over=false→J3 b t (pV p b k s picks z t):=by
 intro k
 induction k with
 | zero =>
  intro s picks z t ho;have e:∀ u,J3 b (gu t s) u→J3 b t u:=fun u h=>⟨⟨h.le,h.most⟩,h.new⟩
  rw [pV];split
  ·exact e _ (BN ho)
  ·split
   ·exact e _ (Hu ho)
   ·exact e _ (BN ho)
 | succ k ih =>
  intro s picks z t ho;have e:∀ u,J3 b (gu t s) u→J3 b t u:=fun u h=>⟨⟨h.le,h.most⟩,h.new⟩
  rw [pV];split
  ·exact e _ (BN ho)
  ·split
   ·exact e _ (Hu ho)
   ·rename_i h1 h2;exact e _ (EK (f:=fun x g t=>pV p b k (doF p s x b.fuel).1 (picks++[x]) (Am p s g x.go) t) (z:=z) (fun x g t h=>ih _ _ _ _ h) _ (gu t s,z) ho (by simpa using h2))
theorem Ho {p:ay} {b:iy} (h:dP p 0 b=0):((cO p b).cnt:Int)≤b.runs∧(0<(cO p b).cnt∨b.runs=0):=by
 rw [cO,if_pos h];have hb:=(LQ h).2.2.2.2
 have h1:=Hl (p:=p) (b:=b) b.steps.toNat (dV p b.fuel).1 [] 0 ss0 rfl;have e:ss0.cnt=0:=rfl
 have h2:=h1.most (by rw [e];exact hb.1);refine ⟨h2,?_⟩;rcases h1.new with h3 | h3
 ·have:=h3.2;omega
 ·left;omega
abbrev oO (z:Nat):AV := .v (.int .u64 (z:Int))
theorem DJ {a:Nat} (h:a<2 ^ 64):(BitVec.ofInt IntKind.u64.bits (a:Int)).toNat=a:=by
 show (BitVec.ofInt 64 (a:Int)).toNat=a;rw [BitVec.toNat_ofInt];omega
theorem NJ {a:Nat} (h:a<2 ^ 64):IntKind.u64.wrap (a:Int)=a:=by rw [IntKind.wrap_u64];omega
theorem Pn {a b:Nat} (ha:a<2 ^ 64) (hb:b<2 ^ 64):IntKind.u64.wrap ↑(BitVec.ofInt IntKind.u64.bits (a:Int) &&& BitVec.ofInt IntKind.u64.bits (b:Int)).toNat=((a &&& b:Nat):Int):=by
 rw [BitVec.toNat_and,DJ ha,DJ hb];exact NJ (Nat.and_lt_two_pow a hb)
theorem Qm {a b:Nat} (ha:a<2 ^ 64) (hb:b<2 ^ 64):IntKind.u64.wrap ↑(BitVec.ofInt IntKind.u64.bits (a:Int) ||| BitVec.ofInt IntKind.u64.bits (b:Int)).toNat=((a ||| b:Nat):Int):=by
 rw [BitVec.toNat_or,DJ ha,DJ hb];exact NJ (Nat.or_lt_two_pow ha hb)
theorem Rn (m i:Nat):((m:Int).fdiv (2 ^ i))=((m >>> i:Nat):Int):=by
 rw [Nat.shiftRight_eq_div_pow,Int.fdiv_eq_ediv_of_nonneg _ (by exact Int.pow_nonneg (by decide))];simp
theorem QN (m i:Nat):(m >>> i) &&& 1=if m.testBit i=true then 1 else 0:=by
 rw [Nat.testBit,Nat.and_comm];have h:=Nat.and_one_is_mod (m >>> i)
 have h2:1 &&& m >>> i=m >>> i &&& 1:=Nat.and_comm ..;rw [h2,h];rcases Nat.mod_two_eq_zero_or_one (m >>> i)with h1 | h1 <;> simp [h1]
theorem shN (i:Nat) (h:i<64):min ((i:Int).toNat) IntKind.u64.bits=i:=by simp only [Int.toNat_natCast];exact Nat.min_eq_left (by show i≤64;omega)
theorem IZ (z g:Nat) (hz:z<64) (hg:g<6):AC Tryz.prog T aV 78 [oO z,.int g] [] (.bool (z.testBit g)) []:=by
 refine aA hT Tryz.func78 rfl rfl (Nat.le_of_ble_eq_true rfl) ?_;refine sg rfl ?_;refine sg rfl ?_;refine WP.ret ?_;change Fin ..;refine fin1 hT (by rfl) ?_;rw [shN g (by omega),Rn];have h1:z >>> g<2 ^ 64:=Nat.lt_of_le_of_lt (Nat.shiftRight_le z g) (by omega)
 have h2:=Pn (b:=1) h1 (by decide);rw [show ((1:Nat):Int)=1 from rfl]at h2;rw [h2,QN];cases z.testBit g <;> rfl
theorem Qn {z g:Nat} (hz:z<64) (hg:g<6):z ||| 2 ^ g<64:=Nat.or_lt_two_pow (n:=6) hz (Nat.pow_lt_pow_right (by decide) hg)
theorem GN (z g:Nat) (hz:z<64) (hg:g<6):AC Tryz.prog T aV 76 [oO z,.int g] [] (oO (z ||| 2 ^ g)) []:=by
 refine aA hT Tryz.func76 rfl rfl (Nat.le_of_ble_eq_true rfl) ?_;refine sg rfl ?_;refine sg rfl ?_;refine WP.ret ?_;change Fin ..;refine aH hT [] (ts:=[(4,oO (z ||| 2 ^ g))]) (l:=[oO (z ||| 2 ^ g)]) trivial ⟨⟨rfl,_,rfl,ah (congrArg (fun n=>AV.v (.int .u64 n)) ?_)⟩,tt⟩ trivial rfl rfl rfl;have hp:2 ^ g<2 ^ 64:=Nat.pow_lt_pow_right (by decide) (by omega)
 rw [shN g (by omega)];have e1:(1:Int)*2 ^ g=((2 ^ g:Nat):Int):=by simp
 rw [e1,NJ hp,Qm (by omega) hp]
theorem Ol (p:ay) (s:PSt) (g:Int) (ho:OkS s):AC Tryz.prog T aV 130 [aC p,encS s,.int g] [] (.int (y9 p s g)) []:=by
 refine aA hT Tryz.func130 rfl rfl (Nat.le_of_ble_eq_true rfl) ?_;refine sg rfl ?_;refine sq ?_;refine WP.ent (st':=aP [(3,.rp 26 (aC p)),(4,.rp 62 (encS s)),(2,.int g),(6,.int 0)] []) (em [(.s 3 0,1),(.s 4 0,1)] ⟨sF,sF,tt⟩ ⟨rq,rq,cq,cq,tt⟩ trivial) ?_;refine rgs [CG.pure (.int (qG p s))] rfl ?_ ?_
 ·have hq:=yY p s ho;exact au
 refine sq (bk (sq (rg [] rfl ?_)));refine cd rfl (fun h2=>?_) (fun h2=>?_)
 ·have ha:qG p s≠0:=by simpa using h2
  refine sg rfl ?_;exact WP.ret (dQ hT (by rfl) (by rw [y9,if_pos ha]))
 ·have ha:¬ qG p s≠0:=by simpa using h2
  refine sg rfl ?_;refine cd rfl (fun h4=>?_) (fun h4=>?_)
  ·have hg:g<0∨6≤g:=by simp only [bor]at h4;simpa using h4
   refine sg rfl ?_;exact WP.ret (dQ hT (by rfl) (by rw [y9,if_neg ha,if_pos hg]))
  ·have hg:¬ (g<0∨6≤g):=by simp only [bor]at h4;simpa using h4
   refine sq (rgs [CG.pure (.bool (oM (goI s g)))] rfl ?_ ?_)
   ·have hq:=xR s g (by omega);exact au
   refine cd rfl (fun h6=>?_) (fun h6=>?_)
   ·have hl:oM (goI s g)=false:=by simpa using h6
    refine sg rfl ?_;exact WP.ret (dQ hT (by rfl) (by rw [y9,if_neg ha,if_neg hg,if_pos hl]))
   ·have hl:¬ oM (goI s g)=false:=by simpa using h6
    refine sk (sq (rg [] rfl ?_));exact WP.ret (dQ hT (by rfl) (by rw [y9,if_neg ha,if_neg hg,if_neg hl]))
theorem FU {p:ay} {s:PSt} {g:Int} (ho:OkS s) (h:y9 p s g=0):eX p s g:=by
 unfold y9 at h;by_cases h1:qG p s≠0
 ·rw [if_pos h1]at h;exact absurd h h1
 ·rw [if_neg h1]at h;by_cases h2:g<0∨6≤g
  ·rw [if_pos h2]at h;cases h
  ·rw [if_neg h2]at h;by_cases h3:oM (goI s g)=false
   ·rw [if_pos h3]at h;cases h
   ·exact ⟨ho,Rz (by simpa using h1),by simpa using h3,by omega⟩
theorem zq (p:ay) (s:PSt) (g:Int) (ho:OkS s):AC Tryz.prog T aV 122 [aC p,encS s,.int g] [] (.tup [zx false (iY p s g),.int (y9 p s g)]) []:=by
 refine aA hT Tryz.func122 rfl rfl (Nat.le_of_ble_eq_true rfl) ?_;refine sg rfl ?_;refine sq (sq ?_);refine WP.ent (st':=aP [(3,.rp 26 (aC p)),(4,.rp 62 (encS s)),(2,.int g)] []) (em [(.s 3 0,1),(.s 4 0,1)] ⟨sF,sF,tt⟩ ⟨rq,rq,cq,tt⟩ trivial) ?_;refine rgs [CG.pure (.int (y9 p s g))] rfl ?_ ?_
 ·have hq:=Ol p s g ho;exact au
 refine sg rfl ?_;refine cd rfl (fun h2=>?_) (fun h2=>?_)
 ·have ha:y9 p s g≠0:=by simpa using h2
  refine sg rfl ?_;refine WP.ret ?_;change Fin ..;refine aH hT [] (ts:=[(6,zx false (iY p s g)),(7,.int (y9 p s g))]) (l:=[zx false (iY p s g),.int (y9 p s g)]) trivial ⟨⟨rfl,_,rfl,?_⟩,cq,tt⟩ trivial rfl rfl rfl;rw [iY,if_neg ha];exact dX (by decide)
 ·have ha:y9 p s g=0:=by simpa using h2
  refine sk (sq (rgs [CG.pure (rowP 134 dJ bt0 (eU p s g))] rfl ?_ ?_))
  ·have hq:=DK p s g (FU ho ha);exact au
  refine WP.ret ?_;change Fin ..;refine aH hT [] (ts:=[(6,zx false (iY p s g)),(7,.int (y9 p s g))]) (l:=[zx false (iY p s g),.int (y9 p s g)]) trivial ⟨⟨rfl,_,rfl,?_⟩,⟨rfl,_,rfl,?_⟩,tt⟩ trivial rfl rfl rfl
  ·rw [iY,if_pos ha];exact Jz _
  ·rw [ha];exact ah rfl
theorem OC (p:ay) (s:PSt) (z:Nat) (g:Int) (ho:OkS s) (hz:z<64):AC Tryz.prog T aV 77 [aC p,encS s,oO z,.int g] [] (oO (Am p s z g)) []:=by
 refine aA hT Tryz.func77 rfl rfl (Nat.le_of_ble_eq_true rfl) ?_;refine sg rfl ?_;refine sq ?_;refine WP.ent (st':=aP [(4,.rp 26 (aC p)),(5,.rp 62 (encS s)),(2,oO z),(3,.int g)] []) (em [(.s 4 0,1),(.s 5 0,1)] ⟨sF,sF,tt⟩ ⟨rq,rq,cq,cq,tt⟩ trivial) ?_;refine rgs [CG.pure (.tup [zx false (iY p s g),.int (y9 p s g)])] rfl ?_ ?_
 ·have hq:=zq p s g ho;exact au
 refine sg rfl ?_;refine sq (sq (rg [] rfl ?_));refine bk ?_;refine WP.loop (α:=Nat) (fun k=>aP [(2,oO z),(3,.int g),(4,.rp 26 (aC p)),(5,.rp 62 (encS s)),(9,zx false (iY p s g)),(11,oO (lD p s z g k)),(22,.int k)] []) (fun k=>k≤6) (fun k=>6 - k) ?_ ?_
 ·refine ⟨0,?_,?_⟩
  ·omega
  ·refine em [] trivial ⟨cq,cq,cq,cq,cq,cq,cq,tt⟩ trivial
 ·rintro k hk;refine sg rfl ?_;refine sq ?_;refine cd rfl (fun h4=>?_) (fun h4=>?_)
  ·have hkl:k<6:=by simp [-List.getD_eq_getElem?_getD]at h4;omega
   have hlt:lD p s z g k<64:=Nat.lt_of_lt_of_le (uU p s z g k) (Nat.pow_le_pow_right (by decide) hk);refine sk (sq (bk (sq (rg [] rfl ?_))));refine sq (sq (rgs [CG.pure (.bool (z.testBit k))] rfl ?_ ?_))
   ·have hq:=IZ z k hz hkl;exact au
   refine cd rfl (fun h6=>?_) (fun h6=>?_)
   ·have hc:z.testBit k=false∨(k:Int)=g:=by simp only [bor]at h6;simpa using h6
    refine xt (rg [] rfl ?_);refine ⟨k+1,?_,?_,?_⟩
    ·exact hkl
    ·refine em [] trivial ⟨cq,cq,cq,cq,cq,⟨rfl,_,rfl,ah (by rw [lD,if_pos hc])⟩,cq,tt⟩ trivial
    ·(try simp only []);first | omega | grind
   ·have hc:¬ (z.testBit k=false∨(k:Int)=g):=by simp only [bor]at h6;simpa using h6
    refine sk (sq (rgs [CG.pure (.tup [zx false (iY p s k),.int (y9 p s k)])] rfl ?_ ?_))
    ·have hq:=zq p s k ho;exact au
    refine sq (rgs [CG.pure (.bool (qC (iY p s k) (iY p s g)))] rfl ?_ ?_)
    ·have hq:=MC false false (iY p s k) (iY p s g);exact au
    refine cd rfl (fun h8=>?_) (fun h8=>?_)
    ·have hd:qC (iY p s k) (iY p s g)=false:=by simpa using h8
     refine rgs [CG.pure (oO (lD p s z g k ||| 2 ^ k))] rfl ?_ ?_
     ·have hq:=GN (lD p s z g k) k hlt hkl;exact au
     refine rg [] rfl ?_;refine ⟨k+1,?_,?_,?_⟩
     ·exact hkl
     ·refine em [] trivial ⟨cq,cq,cq,cq,cq,⟨rfl,_,rfl,ah (by rw [lD,if_neg hc,if_pos hd])⟩,cq,tt⟩ trivial
     ·(try simp only []);first | omega | grind
    ·have hd:¬ qC (iY p s k) (iY p s g)=false:=by simpa using h8
     refine sk (rg [] rfl ?_);refine ⟨k+1,?_,?_,?_⟩
     ·exact hkl
     ·refine em [] trivial ⟨cq,cq,cq,cq,cq,⟨rfl,_,rfl,ah (by rw [lD,if_neg hc,if_neg hd])⟩,cq,tt⟩ trivial
     ·(try simp only []);first | omega | grind
  ·have hkl:k=6:=by simp [-List.getD_eq_getElem?_getD]at h4;omega
   subst hkl;refine xt (sq (rg [] rfl ?_));exact WP.ret (aH hT [] (ts:=[(8,oO (Am p s z g))]) (l:=[oO (Am p s z g)]) trivial ⟨⟨rfl,_,rfl,ah rfl⟩,tt⟩ trivial rfl rfl rfl)
def JX {α:Type} (q:α→Bool) (l:List α):Int:=match l.findIdx? q with | some i=>(i:Int) | none => -1
theorem I9 {α:Type} {q:α→Bool} {l:List α} {d:α} {i:Nat} (hi:i<l.length) (hx:q (l.getD i d)=true) (hn:∀ j,j<i→q (l.getD j d)=false):JX q l=i:=by
 have g:∀ j (h:j<l.length),l.getD j d=l[j]:=fun j h=>by simp [List.getD_eq_getElem?_getD,h]
 have e:l.findIdx? q=some i:=by
  rw [List.findIdx?_eq_some_iff_getElem];refine ⟨hi,by rw [← g i hi];exact hx,fun j hj=>?_⟩;intro h;rw [← g j (by omega),hn j hj]at h;cases h
 rw [JX,e]
theorem I8 {α:Type} {q:α→Bool} {l:List α} {d:α} (hn:∀ j,j<l.length→q (l.getD j d)=false):JX q l = -1:=by
 have e:l.findIdx? q=none:=by
  rw [List.findIdx?_eq_none_iff];intro x hx;obtain ⟨j,hj,rfl⟩:=List.getElem_of_mem hx;have:=hn j hj
  simpa [List.getD_eq_getElem?_getD,hj]using this
 rw [JX,e]
theorem EH {α:Type} (q:α→Bool) (l:List α):decide (JX q l≥0)=l.any q:=by
 unfold JX;cases h:l.findIdx? q with
 | none =>
  rw [List.findIdx?_eq_none_iff]at h;have:l.any q=false:=by simpa using h
  rw [this];rfl
 | some i =>
  rw [List.findIdx?_eq_some_iff_getElem]at h;obtain ⟨h1,h2,_⟩:=h;have:l.any q=true:=List.any_eq_true.2 ⟨l[i],List.getElem_mem h1,h2⟩
  rw [this];exact decide_eq_true (Int.natCast_nonneg i)
theorem Qz (x:PGo):AC Tryz.prog T aV 177 [bH x] [] (.bool (x.status==5)) []:=by
 refine aA hT Tryz.func177 rfl rfl (Nat.le_of_ble_eq_true rfl) ?_;refine sg rfl ?_;refine sg rfl ?_;exact WP.ret (fin1 hT (by rfl) rfl)
theorem Qj (x:bI) (z:Nat) (hz:z<64) (hx:0≤x.go∧x.go<6):AC Tryz.prog T aV 179 [aO x,.rp 161 (oO z)] [] (.bool (!z.testBit x.go.toNat)) []:=by
 refine aA hT Tryz.func179 rfl rfl (Nat.le_of_ble_eq_true rfl) ?_;refine sg rfl ?_;refine sq (rgs [CG.pure (.bool (z.testBit x.go.toNat))] rfl ?_ ?_)
 ·have hq:=IZ z x.go.toNat hz (by omega);rw [show ((x.go.toNat:Nat):Int)=x.go by omega]at hq;exact au
 exact WP.ret (fin1 hT (by rfl) rfl)
abbrev PD (t:Nat) {α:Type} (f:Bool) (enc:α→AV) (d:α) (l:List α):AV := .row t f l.length (fun i=>enc (l.getD i d))
theorem Lr (g:Bool) (l:List PGo) (z:Nat):AC Tryz.prog T aV 236 [PD 59 g bH go0 l,(.clo 177 [])] [] (.int (JX (fun x:PGo=>x.status==5) l)) []:=by
 refine aA hT Tryz.func236 rfl rfl (Nat.le_of_ble_eq_true rfl) ?_;refine WP.rowlen 0 rfl (fun hl0=>?_);refine sg rfl ?_;refine sq (sq (rg [] rfl ?_));refine bk ?_;refine WP.loop (α:=Nat) (fun i=>aP [(0,PD 59 g bH go0 l),(1,(.clo 177 [])),(7,.int l.length),(8,.int i)] []) (fun i=>i≤l.length ∧ ∀ j,j<i→(fun x:PGo=>x.status==5) (l.getD j go0)=false) (fun i=>l.length - i) ?_ ?_
 ·refine ⟨0,?_,?_⟩
  ·exact ⟨Nat.zero_le _,fun j hj=>by omega⟩
  ·refine em [] trivial ⟨cq,cq,cq,cq,tt⟩ trivial
 ·rintro i ⟨hi,hn⟩;refine sg rfl ?_;refine sq ?_;refine cd rfl (fun h2=>?_) (fun h2=>?_)
  ·have hil:i<l.length:=by simpa using h2
   refine sk (sq (bk (sq (rg [] rfl ?_))));refine sq (rgs [CG.pure (.bool ((fun x:PGo=>x.status==5) (l.getD i go0)))] rfl ?_ ?_)
   ·have hq:=Qz (l.getD i go0);have hil2:0≤(i:Int)∧(i:Int)<(l.length:Int):=by omega
    simp only [aj,under,CG.pure]
    repeat' with_reducible refine And.intro ?_ ?_
    all_goals (try with_reducible intros)
    all_goals (first | exact trivial | assumption | omega | exact hq | exact hil2 | exact hil2.1 | exact hil2.2 | (simp;done) | grind)
   refine cd rfl (fun h4=>?_) (fun h4=>?_)
   ·refine sg rfl ?_;exact WP.ret (dQ hT (by rfl) (I9 hil h4 hn).symm)
   ·refine sk (rg [] rfl ?_);refine ⟨i+1,?_,?_,?_⟩
    ·exact ⟨hil,all_succ (Q:=fun j=>(fun x:PGo=>x.status==5) (l.getD j go0)=false) hn h4⟩
    ·refine em [] trivial ⟨cq,cq,cq,cq,tt⟩ trivial
    ·(try simp only []);first | omega | grind
  ·have hil:i=l.length:=by simp at h2;omega
   subst hil;refine xt (sq (rg [] rfl ?_));exact WP.ret (dQ hT (by rfl) (I8 hn).symm)
theorem Md (g:Bool) (l:List PGo) (z:Nat):AC Tryz.prog T aV 176 [PD 59 g bH go0 l,(.clo 177 [])] [] (.bool (l.any (fun x:PGo=>x.status==5))) []:=by
 refine aA hT Tryz.func176 rfl rfl (Nat.le_of_ble_eq_true rfl) ?_;refine sg rfl ?_;refine sq (rgs [CG.pure (.int (JX (fun x:PGo=>x.status==5) l))] rfl ?_ ?_)
 ·have hq:=Lr g l z;exact au
 exact WP.ret (fin1 hT (by rfl) (EH _ _))
theorem Lp (g:Bool) (l:List bI) (z:Nat) (hz:z<64) (hl:∀ x∈l,0≤x.go∧x.go<6):AC Tryz.prog T aV 174 [PD 122 g aO dN l,(.clo 179 [.rp 161 (oO z)])] [] (.int (JX (fun x:bI => !z.testBit x.go.toNat) l)) []:=by
 refine aA hT Tryz.func174 rfl rfl (Nat.le_of_ble_eq_true rfl) ?_;refine WP.rowlen 0 rfl (fun hl0=>?_);refine sg rfl ?_;refine sq (sq (rg [] rfl ?_));refine bk ?_;refine WP.loop (α:=Nat) (fun i=>aP [(0,PD 122 g aO dN l),(1,(.clo 179 [.rp 161 (oO z)])),(7,.int l.length),(8,.int i)] []) (fun i=>i≤l.length ∧ ∀ j,j<i→(fun x:bI => !z.testBit x.go.toNat) (l.getD j dN)=false) (fun i=>l.length - i) ?_ ?_
 ·refine ⟨0,?_,?_⟩
  ·exact ⟨Nat.zero_le _,fun j hj=>by omega⟩
  ·refine em [] trivial ⟨cq,cq,cq,cq,tt⟩ trivial
 ·rintro i ⟨hi,hn⟩;refine sg rfl ?_;refine sq ?_;refine cd rfl (fun h2=>?_) (fun h2=>?_)
  ·have hil:i<l.length:=by simpa using h2
   refine sk (sq (bk (sq (rg [] rfl ?_))));refine sq (rgs [CG.pure (.bool ((fun x:bI => !z.testBit x.go.toNat) (l.getD i dN)))] rfl ?_ ?_)
   ·have hq:=Qj (l.getD i dN) z hz (hl _ (by rw [List.getD_eq_getElem?_getD,List.getElem?_eq_getElem hil];exact List.getElem_mem _));have hil2:0≤(i:Int)∧(i:Int)<(l.length:Int):=by omega
    simp only [aj,under,CG.pure]
    repeat' with_reducible refine And.intro ?_ ?_
    all_goals (try with_reducible intros)
    all_goals (first | exact trivial | assumption | omega | exact hq | exact hil2 | exact hil2.1 | exact hil2.2 | (simp;done) | grind)
   refine cd rfl (fun h4=>?_) (fun h4=>?_)
   ·refine sg rfl ?_;exact WP.ret (dQ hT (by rfl) (I9 hil h4 hn).symm)
   ·refine sk (rg [] rfl ?_);refine ⟨i+1,?_,?_,?_⟩
    ·exact ⟨hil,all_succ (Q:=fun j=>(fun x:bI => !z.testBit x.go.toNat) (l.getD j dN)=false) hn h4⟩
    ·refine em [] trivial ⟨cq,cq,cq,cq,tt⟩ trivial
    ·(try simp only []);first | omega | grind
  ·have hil:i=l.length:=by simp at h2;omega
   subst hil;refine xt (sq (rg [] rfl ?_));exact WP.ret (dQ hT (by rfl) (I8 hn).symm)
theorem Mc (g:Bool) (l:List bI) (z:Nat) (hz:z<64) (hl:∀ x∈l,0≤x.go∧x.go<6):AC Tryz.prog T aV 178 [PD 122 g aO dN l,(.clo 179 [.rp 161 (oO z)])] [] (.bool (l.any (fun x:bI => !z.testBit x.go.toNat))) []:=by
 refine aA hT Tryz.func178 rfl rfl (Nat.le_of_ble_eq_true rfl) ?_;refine sg rfl ?_;refine sq (rgs [CG.pure (.int (JX (fun x:bI => !z.testBit x.go.toNat) l))] rfl ?_ ?_)
 ·have hq:=Lp g l z hz hl;exact au
 exact WP.ret (fin1 hT (by rfl) (EH _ _))
theorem zD {s:PSt}:∀ {k:Nat},rJ false s k=true ↔ ∃ i,i<k∧((s.gos.getD i go0).status==5)=true
 | 0=>by simp [rJ]
 | k+1=>by
  rw [rJ,Bool.or_eq_true,zD (k:=k)];constructor
  ·rintro (⟨i,h1,h2⟩ | h)
   ·exact ⟨i,by omega,h2⟩
   ·exact ⟨k,by omega,h⟩
  ·rintro ⟨i,h1,h2⟩;by_cases e:i=k
   ·subst e;exact .inr h2
   ·exact .inl ⟨i,by omega,h2⟩
theorem He {s:PSt} (h:s.gos.length=6):(s.gos.any fun x:PGo=>x.status==5)=rJ false s 6:=by
 rw [Bool.eq_iff_iff,zD,List.any_eq_true];constructor
 ·rintro ⟨x,hx,h5⟩;obtain ⟨j,hj,rfl⟩:=List.getElem_of_mem hx;exact ⟨j,by omega,by simpa [List.getD_eq_getElem?_getD,hj]using h5⟩
 ·rintro ⟨i,hi,h5⟩;exact ⟨s.gos[i],List.getElem_mem (by omega),by simpa [List.getD_eq_getElem?_getD,h▸hi,(show i<s.gos.length by omega)]using h5⟩
def kR (i:Id) (p:ay) (b:iy) (t:SS):AV:=bG 150 [aC p,bK b,.own i t.runs.length 0 t.runs.length none,.int t.given,.bool t.over,.bool t.short]
abbrev ssO (p:ay) (b:iy) (t:SS):Ob := .cells ⟨150,1,fun _=>kR (.b 1) p b t,0⟩
theorem kX {σ:Id→Id} {i j:Id} (h1:σ i=j) (p:ay) (b:iy) (t:SS):ren σ (kR i p b t)=kR j p b t:=aW (fun q=>by
 match q with
 | 0=>exact sS σ p
 | 1=>exact Ib σ b
 | 2=>show AV.own (σ i) _ 0 _ none=_;rw [h1];rfl
 | 3 | 4 | 5 | q+6=>rfl)
theorem FM (i:Id) (p:ay) (b:iy) (t:SS) (x:Bool):(kR i p b t).put [4] (.bool x)=kR i p b { t with over:=x}:=aT (Nat.le_of_ble_eq_true rfl)
theorem o7 (i:Id) (p:ay) (b:iy) (t:SS) (x:Bool):(kR i p b t).put [5] (.bool x)=kR i p b { t with short:=x}:=aT (Nat.le_of_ble_eq_true rfl)
theorem BZ (i:Id) (p:ay) (b:iy) (t:SS) (x:Nat):(kR i p b t).put [3] (.int x)=kR i p b { t with given:=x}:=aT (Nat.le_of_ble_eq_true rfl)
abbrev okT (b:iy) (t:SS):Prop:=t.cnt≤65536
theorem N9 (p:ay) (b:iy) (t:SS) (ht:okT b t):AC Tryz.prog T aV 181 [.ptr (.b 0) 1 0 []] [ssO p b t,dB t.runs] (.bool (!(gK b t).over)) [ssO p b (gK b t),dB t.runs]:=by
 refine aA hT Tryz.func181 rfl rfl (Nat.le_of_ble_eq_true rfl) ?_;refine sg rfl ?_;refine sq ?_;have hc:t.runs.length+t.given≤65536:=ht
 refine drs [] rfl ?_ ?_
 ·simp [aj,under]
 refine sq ?_;refine WP.ent (st':=aP [(0,.ptr (.b 0) 1 0 [])] [(.b 0,ssO p b (gK b t)),(.b 1,dB t.runs)]) ?_ ?_
 ·refine em [] trivial ⟨cq,tt⟩ ⟨obs rfl (hg:=q0 (ah ((FM _ p b t _).trans (by rw [cu (by omega) (by omega),gK,SS.cnt,bor];push_cast;rfl)))),obs rfl,tt⟩
 refine rg [] rfl ?_;exact WP.ret (aH hT [] (ts:=[(2,.bool (!(gK b t).over))]) (l:=[.bool (!(gK b t).over)]) trivial ⟨cq,tt⟩ ⟨obs rfl,obs rfl,tt⟩ rfl rfl rfl)
theorem BU {σ:Id→Id} (h1:σ (.b 1) = .b 1) (p:ay) (b:iy) (t:SS):iG σ (ssO p b t)=ssO p b t:=by
 show Ob.cells ⟨_,_,fun _=>ren σ (kR (.b 1) p b t),_⟩=_;rw [kX h1]
theorem kZ {ids:List Id} {p:ay} {b:iy} {t:SS} {L:List GK} (h:dM ids (kR (.b 1) p b t)=true):lg ids [ssO p b t,dB L]:=⟨fun _ _=>h,fun _ _=>rfl,tt⟩
theorem DY (p:ay) (b:iy) (t:SS) (ht:okT b t):AC Tryz.prog T aV 181 [.ptr (.b 0) 1 0 []] [iG (sig [.b 0,.b 1] 0) (ssO p b t),iG (sig [.b 0,.b 1] 0) (dB t.runs)] (.bool (!(gK b t).over)) [ssO p b (gK b t),dB t.runs]:=by
 rw [BU rfl,jk (iT _)];exact N9 p b t ht
theorem P6 (p:ay) (b:iy) (t:SS) (ht:okT b t) (picks:List bI) (hp:picks.length≤256) (cut:Bool):AC Tryz.prog T aV 180 [.ptr (.b 0) 1 0 [],eG picks,.bool cut] [ssO p b t,dB t.runs] (.tup []) [ssO p b (qM b t picks cut),dB (qM b t picks cut).runs]:=by
 refine aA hT Tryz.func180 rfl rfl (Nat.le_of_ble_eq_true rfl) ?_;refine sq (rgs [⟨true,[.b 0,.b 1],.bool (!(gK b t).over),[ssO p b (gK b t),dB t.runs]⟩] rfl ?_ ?_)
 ·have hq:=DY p b t ht;have hk1:lg [.b 0,.b 1] [ssO p b t,dB t.runs]:=kZ rfl
  have hk2:lg (bs 2) [ssO p b (gK b t),dB t.runs]:=kZ rfl;exact au
 refine cd rfl (fun h0=>?_) (fun h0=>?_)
 ·have hb0:(gK b t).over=false:=by simpa using h0
  refine sq ?_;refine WP.ent (st':=aP [(0,.ptr (.b 0) 1 0 []),(1,eG picks),(2,.bool cut)] [(.b 0,.cells ⟨150,1,fun _=>bG 150 [aC p,bK b,.own (.b 1) t.runs.length 0 t.runs.length none,.int t.given,.bool (gK b t).over,.bool t.short],0⟩),(.b 1,dB t.runs)]) (em [] trivial ⟨cq,cq,cq,tt⟩ ⟨obs rfl (hg:=q0 (ah (kX rfl p b _))),obs rfl (hg:=fun q hq=>ah (iT _ _)),tt⟩) ?_;have hc:t.runs.length+t.given≤65536:=ht
  refine drs [CG.pure (eG picks)] rfl ?_ ?_
  ·have hq:=Gq picks (by omega);have hbt:(T 45).bytes=32:=rfl
   exact au
  refine WP.ent (st':=aP [(0,.ptr (.b 0) 1 0 []),(2,.bool cut)] [(.b 0,ssO p b { gK b t with runs:=t.runs++[⟨picks,cut,false⟩] }),(.b 1,dB (t.runs++[⟨picks,cut,false⟩]))]) ?_ ?_
  ·refine em [] trivial ⟨cq,cq,tt⟩ ⟨obs rfl (hg:=q0 (ah (Eq.trans (b:=bG 150 [aC p,bK b,.own (.b 1) (t.runs.length+1) 0 (t.runs.length+1) none,.int t.given,.bool (gK b t).over,.bool t.short]) (aW fun q=>by match q with | 0 | 1 | 2 | 3 | 4 | 5 | q+6=>rfl) (congrArg (fun n=>bG 150 [aC p,bK b,.own (.b 1) n 0 n none,.int t.given,.bool (gK b t).over,.bool t.short]) (show t.runs.length+1=(t.runs++[(⟨picks,cut,false⟩:GK)]).length from (fK _ _).symm))))),bM (Iu _) rfl rfl (by rw [fK]) rfl rfl (QV (z:=(T 45).zero) rfl (aW fun q=>by match q with | 0 | 1 | 2 | q+3=>rfl) (fun q hq=>rfl)),tt⟩
  refine rg [] rfl ?_;change Fin ..
  first
  | (
   rw [show qM b t picks cut={ gK b t with runs:=t.runs++[⟨picks,cut,false⟩],short:=t.short||cut} by rw [qM,if_neg (by rw [hb0];decide)]];exact aH hT [] (ts:=[]) (l:=[]) trivial trivial ⟨obs rfl (hg:=q0 (ah ((o7 _ p b _ _).trans (by rw [bor];rfl)))),obs rfl,tt⟩ rfl rfl rfl)
  | (
   rw [show qM b t picks cut=gK b t by rw [qM,if_pos hb0]];exact aH hT [] (ts:=[]) (l:=[]) trivial trivial ⟨obs rfl (hg:=q0 (ah (kX rfl p b _))),obs rfl (hg:=fun q hq=>ah (iT _ _)),tt⟩ rfl rfl rfl)
 ·have hb0:(gK b t).over=true:=by simpa using h0
  refine sk ?_;change Fin ..
  first
  | (
   rw [show qM b t picks cut={ gK b t with runs:=t.runs++[⟨picks,cut,false⟩],short:=t.short||cut} by rw [qM,if_neg (by rw [hb0];decide)]];exact aH hT [] (ts:=[]) (l:=[]) trivial trivial ⟨obs rfl (hg:=q0 (ah ((o7 _ p b _ _).trans (by rw [bor];rfl)))),obs rfl,tt⟩ rfl rfl rfl)
  | (
   rw [show qM b t picks cut=gK b t by rw [qM,if_pos hb0]];exact aH hT [] (ts:=[]) (l:=[]) trivial trivial ⟨obs rfl (hg:=q0 (ah (kX rfl p b _))),obs rfl (hg:=fun q hq=>ah (iT _ _)),tt⟩ rfl rfl rfl)
theorem NU {p:ay} {b:iy} {k:Nat} {s:PSt} {picks:List bI} {z:Nat} {t:SS} (h:aS p s=[]):pV p b k s picks z t=qM b (gu t s) picks false:=by
 cases k <;> rw [pV,if_pos h]
theorem Kq {p:ay} {b:iy} {k:Nat} {s:PSt} {picks:List bI} {z:Nat} {t:SS} (h:aS p s≠[]) (h2:oh (aS p s) z=false):pV p b k s picks z t=N7 b (gu t s):=by
 cases k <;> rw [pV,if_neg h,if_pos h2]
theorem NT {p:ay} {b:iy} {s:PSt} {picks:List bI} {z:Nat} {t:SS} (h:aS p s≠[]) (h2:¬ oh (aS p s) z=false):pV p b 0 s picks z t=qM b (gu t s) picks true:=by
 rw [pV,if_neg h,if_neg h2]
abbrev stepS (p:ay) (b:iy) (k:Nat) (s:PSt) (picks:List bI) (x:bI) (g:Nat) (t:SS):SS:=pV p b k (doF p s x b.fuel).1 (picks++[x]) (Am p s g x.go) t
theorem Kr {p:ay} {b:iy} {k:Nat} {s:PSt} {picks:List bI} {z:Nat} {t:SS} (h:aS p s≠[]) (h2:¬ oh (aS p s) z=false):pV p b (k+1) s picks z t=((aS p s).foldl (D5 (stepS p b k s picks) z) (gu t s,z)).1:=by
 rw [pV,if_neg h,if_neg h2]
theorem Hg {p:ay} {b:iy} (hb:JZ b) {k:Nat} {s:PSt} {picks:List bI} {z:Nat} {t:SS} (ho:t.over=false) (h:(t.cnt:Int)≤b.runs):((pV p b k s picks z t).cnt:Int)≤b.runs:=(Hl k s picks z t ho).most h
theorem D6 {p:ay} {s:PSt} {x:bI} (h:x∈aS p s):0≤x.go∧x.go<6:=by
 unfold aS at h;split at h
 ·obtain ⟨g,hg,hx⟩:=List.mem_flatMap.1 h;obtain ⟨a,_,rfl⟩:=List.mem_map.1 hx;obtain ⟨j,h1,h2,_⟩:=oG.1 hg;simp only;omega
 ·cases h
abbrev NW (p:ay) (b:iy) (k:Nat):Prop := ∀ (s:PSt) (picks:List bI) (z:Nat) (t:SS),picks.length+k=b.steps.toNat→OkS s→z<64→t.over=false→(t.cnt:Int)≤b.runs→AC Tryz.prog T aV 119 [.ptr (.b 0) 1 0 [],encS s,eG picks,oO z] [ssO p b t,dB t.runs] (.tup []) [ssO p b (pV p b k s picks z t),dB (pV p b k s picks z t).runs]
theorem NV {p:ay} {b:iy} {k:Nat} (ih:NW p b k) (s:PSt) (picks:List bI) (x:bI) (z:Nat) (t:SS) (h1:picks.length+1+k=b.steps.toNat) (h2:OkS s) (hz:z<64) (ho:t.over=false) (hc:(t.cnt:Int)≤b.runs) {n:Nat} {f:Bool} {g:Nat→AV} (hn:n=picks.length+1) (hg:∀ j,j<picks.length+1→g j=aO ((picks++[x]).getD j dN)):AC Tryz.prog T aV 119 [.ptr (.b 0) 1 0 [],ren (sig [.b 0,.b 1] 0) (encS s),.row 122 f n g,oO z] [iG (sig [.b 0,.b 1] 0) (ssO p b t),iG (sig [.b 0,.b 1] 0) (dB t.runs)] (.tup []) [ssO p b (pV p b k s (picks++[x]) z t),dB (pV p b k s (picks++[x]) z t).runs]:=by
 subst hn;rw [KC,BU rfl,jk (iT _)];refine AC.args hT (ih s (picks++[x]) z t (by rw [fK];exact h1) h2 hz ho hc) rfl (fun i a c ha hc=>?_)
 match i,ha,hc with
 | 0,ha,hc=>cases ha;cases hc;exact ah rfl
 | 1,ha,hc=>cases ha;cases hc;exact ah rfl
 | 2,ha,hc =>
  cases ha;cases hc;have e:eG (picks++[x]) = .row 122 false (picks.length+1) (fun i=>aO ((picks++[x]).getD i dN)):=by rw [← fK picks x];rfl
  rw [e];exact qB (fun h=>by cases h) hg
 | 3,ha,hc=>cases ha;cases hc;exact ah rfl
theorem GV (p:ay) (b:iy) (t:SS) (ht:okT b t) (picks:List bI) (hp:picks.length≤256) (cut:Bool):AC Tryz.prog T aV 180 [.ptr (.b 0) 1 0 [],eG picks,.bool cut] [iG (sig [.b 0,.b 1] 0) (ssO p b t),iG (sig [.b 0,.b 1] 0) (dB t.runs)] (.tup []) [ssO p b (qM b t picks cut),dB (qM b t picks cut).runs]:=by
 rw [BU rfl,jk (iT _)];exact P6 p b t ht picks hp cut
theorem Pj (s:PSt) (h:s.gos.length=6) {n:Nat} {g:Nat→AV} (hn:n=6) (hg:∀ j,j<6→g j=bH (s.gos.getD j go0)):AC Tryz.prog T aV 176 [.row 59 true n g,.clo 177 []] [] (.bool (rJ false s 6)) []:=by
 subst hn;rw [← He h];refine AC.args hT (Md true s.gos 0) rfl (fun i a c ha hc=>?_)
 match i,ha,hc with
 | 0,ha,hc =>
  cases ha;cases hc;show Conv _ _ _ _ (.row 59 true s.gos.length (fun i=>bH (s.gos.getD i go0)))
  rw [h];exact qB (fun h=>h) hg
 | 1,ha,hc=>cases ha;cases hc;exact ah rfl
theorem DR (p:ay) (b:iy) (hb:JZ b) (k:Nat) (ih:∀ k',k=k'+1→NW p b k') (s:PSt) (picks:List bI) (z:Nat) (t:SS) (hk:picks.length+k=b.steps.toNat) (hs:OkS s) (hz:z<64) (ho:t.over=false) (hc:(t.cnt:Int)≤b.runs):AC Tryz.prog T aV 119 [.ptr (.b 0) 1 0 [],encS s,eG picks,oO z] [ssO p b t,dB t.runs] (.tup []) [ssO p b (pV p b k s picks z t),dB (pV p b k s picks z t).runs]:=by
 refine aA hT Tryz.func119 rfl rfl (Nat.le_of_ble_eq_true rfl) ?_;have hb1:=hb.1
 have hb5:=hb.2.2;refine sg rfl ?_;refine sq ?_;refine WP.ent (st':=aP [(0,.ptr (.b 0) 1 0 []),(2,eG picks),(5,.rp 62 (encS s)),(7,.rp 161 (oO z))] [(.b 0,ssO p b t),(.b 1,dB t.runs)]) ?_ ?_
 ·refine em [(.s 5 0,1),(.s 7 0,1)] ⟨sF,sF,tt⟩ ⟨cq,cq,rq,rq,tt⟩ ⟨obs rfl,obs rfl,tt⟩
 refine rgs [CG.pure (.bool (rJ false s 6))] rfl ?_ ?_
 ·clear ih;have hq:=fun {n g}=>Pj s hs.gos (n:=n) (g:=g)
  simp only [aj,under,CG.pure]
  repeat' with_reducible refine And.intro ?_ ?_
  all_goals (try with_reducible intros)
  all_goals (first | exact trivial | assumption | exact hq rfl (fun j hj=>by show bH (s.gos.getD (0+j) go0)=_;rw [Nat.zero_add]) | (simp [rO,slB];done) | (simp;done) | (simp_all;done) | trace_state)
 refine sq ?_;refine WP.ent (st':=aP [(0,.ptr (.b 0) 1 0 []),(2,eG picks),(5,.rp 62 (encS s)),(7,.rp 161 (oO z))] [(.b 0,ssO p b (gu t s)),(.b 1,dB t.runs)]) ?_ ?_
 ·refine em [] trivial ⟨cq,cq,cq,cq,tt⟩ ⟨obs rfl (hg:=q0 (ah ((o7 _ p b t _).trans (by rw [bor])))),obs rfl,tt⟩
 refine drs [CG.pure (.tup [eG (aS p s),.int (qG p s)])] rfl ?_ ?_
 ·clear ih;have hq:=zN p s hs
  exact au
 refine sq (rgs [CG.pure (.bool (oh (aS p s) z))] rfl ?_ ?_)
 ·clear ih;have hq:=Mc false (aS p s) z hz (fun x hx=>D6 hx)
  exact au
 refine sq (bk (sq (rg [] rfl ?_)));refine cd rfl (fun h4=>?_) (fun h4=>?_)
 ·have hr:aS p s=[]:=by simpa using h4
  rw [NU hr];refine sq (rgs [⟨true,[.b 0,.b 1],.tup [],[ssO p b (qM b (gu t s) picks false),dB (qM b (gu t s) picks false).runs]⟩] rfl ?_ ?_)
  ·clear ih;have hq:=GV p b (gu t s) (show t.cnt≤65536 by omega) picks (by omega) false
   have hk1:lg [.b 0,.b 1] [ssO p b (gu t s),dB t.runs]:=kZ rfl;have hk2:lg (bs 2) [ssO p b (qM b (gu t s) picks false),dB (qM b (gu t s) picks false).runs]:=kZ rfl
   exact au
  exact WP.ret (aH hT [] (ts:=[]) (l:=[]) trivial trivial ⟨obs rfl (hg:=q0 (ah (kX rfl p b _))),obs rfl (hg:=fun q hq=>ah (iT _ _)),tt⟩ rfl rfl rfl)
 ·have hr:aS p s≠[]:=by simpa using h4
  refine sg rfl ?_;refine cd rfl (fun h6=>?_) (fun h6=>?_)
  ·have ha:oh (aS p s) z=false:=by simpa using h6
   rw [Kq hr ha];refine sq (sq (rgs [⟨true,[.b 0,.b 1],.bool (!(gK b (gu t s)).over),[ssO p b (gK b (gu t s)),dB t.runs]⟩] rfl ?_ ?_))
   ·clear ih;have hq:=DY p b (gu t s) (show t.cnt≤65536 by omega)
    have hk1:lg [.b 0,.b 1] [ssO p b (gu t s),dB t.runs]:=kZ rfl;have hk2:lg (bs 2) [ssO p b (gK b (gu t s)),dB t.runs]:=kZ rfl
    exact au
   refine cd rfl (fun h7=>?_) (fun h7=>?_)
   ·have hv:¬ (gK b (gu t s)).over=true:=by simpa using h7
    have hc2:t.runs.length+t.given≤65536:=show t.cnt≤65536 by omega
    refine rgs [] rfl ?_ ?_
    ·simp [aj,under]
    refine WP.ret ?_;change Fin ..;rw [N7,if_neg hv];refine aH hT [] (ts:=[]) (l:=[]) trivial trivial ⟨obs rfl (hg:=q0 (ah ?_)),obs rfl (hg:=fun q hq=>ah (iT _ _)),tt⟩ rfl rfl rfl;refine (congrArg (fun a=>AV.put a [3] _) (kX (j := .b 1) rfl p b (gK b (gu t s)))).trans ?_;rw [show IntKind.i64.wrap (((gK b (gu t s)).given:Int)+1)=((t.given+1:Nat):Int)from (cu (by show _≤(t.given:Int)+1;omega) (by show (t.given:Int)+1<_;omega))];exact BZ _ p b (gK b (gu t s)) (t.given+1)
   ·have hv:(gK b (gu t s)).over=true:=by simpa using h7
    refine sk ?_;refine WP.ret ?_;change Fin ..;rw [N7,if_pos hv];exact aH hT [] (ts:=[]) (l:=[]) trivial trivial ⟨obs rfl (hg:=q0 (ah (kX rfl p b _))),obs rfl (hg:=fun q hq=>ah (iT _ _)),tt⟩ rfl rfl rfl
  ·have ha:¬ oh (aS p s) z=false:=by simpa using h6
   refine sg rfl ?_;refine cd rfl (fun h9=>?_) (fun h9=>?_)
   ·have hk0:k=0:=by have h9':(picks.length:Int)=b.steps:=(by simpa using h9);omega
    subst hk0;rw [NT hr ha];refine sq (rgs [⟨true,[.b 0,.b 1],.tup [],[ssO p b (qM b (gu t s) picks true),dB (qM b (gu t s) picks true).runs]⟩] rfl ?_ ?_)
    ·clear ih;have hq:=GV p b (gu t s) (show t.cnt≤65536 by omega) picks (by omega) true
     have hk1:lg [.b 0,.b 1] [ssO p b (gu t s),dB t.runs]:=kZ rfl;have hk2:lg (bs 2) [ssO p b (qM b (gu t s) picks true),dB (qM b (gu t s) picks true).runs]:=kZ rfl
     exact au
    exact WP.ret (aH hT [] (ts:=[]) (l:=[]) trivial trivial ⟨obs rfl (hg:=q0 (ah (kX rfl p b _))),obs rfl (hg:=fun q hq=>ah (iT _ _)),tt⟩ rfl rfl rfl)
   ·obtain ⟨n,hn⟩:∃ n,k=n+1:=by
     refine ⟨k - 1,?_⟩;have h9':(picks.length:Int)≠b.steps:=by simpa using h9
     omega
    subst hn;rw [Kr hr ha];refine sk (sq (rg [] rfl ?_));refine sg rfl ?_;refine bk ?_;refine WP.loop (α:=Nat×SS×Nat) (fun (⟨i,a⟩:Nat×SS×Nat)=>aP [(0,.ptr (.b 0) 1 0 []),(2,eG picks),(5,.rp 62 (encS s)),(7,.rp 161 (oO z)),(11,oO a.2),(73,eG (aS p s)),(74,.int (aS p s).length),(75,.int i)] [(.b 0,ssO p b a.1),(.b 1,dB a.1.runs)]) (fun (⟨i,a⟩:Nat×SS×Nat)=>i≤(aS p s).length∧a.2<64∧(a.1.cnt:Int)≤b.runs∧((aS p s).drop i).foldl (D5 (stepS p b n s picks) z) a=(aS p s).foldl (D5 (stepS p b n s picks) z) (gu t s,z)) (fun (⟨i,a⟩:Nat×SS×Nat)=>(aS p s).length - i) ?_ ?_
    ·refine ⟨⟨0,(gu t s,z)⟩,?_,?_⟩
     ·exact ⟨Nat.zero_le _,hz,hc,rfl⟩
     ·refine em [] trivial ⟨cq,cq,cq,cq,cq,cq,cq,cq,tt⟩ ⟨obs rfl,obs rfl,tt⟩
    ·rintro ⟨i,a⟩ ⟨hi2,ha2,hac,hfl⟩;refine WP.rowlen 73 rfl (fun hl=>?_);refine sg rfl ?_;refine sq ?_;refine cd rfl (fun h13=>?_) (fun h13=>?_)
     ·have hil:i<(aS p s).length:=by simp [-List.getD_eq_getElem?_getD]at h13;omega
      have hdr:(aS p s).drop i=(aS p s).getD i dN::(aS p s).drop (i+1):=by rw [List.drop_eq_getElem_cons hil];simp [hil]
      rw [hdr,List.foldl_cons]at hfl;obtain ⟨x,hx⟩:∃ x,(aS p s).getD i dN=x:=⟨_,rfl⟩;rw [hx]at hfl;have hxr:x∈aS p s:=by rw [← hx,List.getD_eq_getElem?_getD,List.getElem?_eq_getElem hil];exact List.getElem_mem _
      have hx6:=D6 hxr;have hxn:((x.go.toNat:Nat):Int)=x.go:=by omega
      refine sk (sq (bk (sq (rg [] rfl ?_))));refine sq (sq ?_);refine WP.ent (st':=aP [(0,.ptr (.b 0) 1 0 []),(2,eG picks),(5,.rp 62 (encS s)),(7,.rp 161 (oO z)),(11,oO a.2),(13,.rp 122 (aO x)),(73,eG (aS p s)),(74,.int (aS p s).length),(75,.int i)] [(.b 0,ssO p b a.1),(.b 1,dB a.1.runs)]) ?_ ?_
      ·refine em [(.s 13 0,1)] ⟨sF,tt⟩ ⟨cq,cq,cq,cq,cq,⟨rfl,_,rfl,eY rfl rfl (by decide) rfl (by rw [← hx];rfl) rfl⟩,cq,cq,cq,tt⟩ ⟨obs rfl,obs rfl,tt⟩
      refine rgs [CG.pure (.bool (z.testBit x.go.toNat))] rfl ?_ ?_
      ·clear ih;have hq:=IZ z x.go.toNat hz (by omega)
       rw [hxn]at hq;exact au
      refine cd rfl (fun h15=>?_) (fun h15=>?_)
      ·have hsk:z.testBit x.go.toNat=true∨a.1.over=true:=by simp only [bor]at h15;simpa using h15
       have e3:D5 (stepS p b n s picks) z a x=a:=if_pos hsk;refine xt (rg [] rfl ?_);refine ⟨⟨i+1,a⟩,?_,?_,?_⟩
       ·exact ⟨hil,ha2,hac,by rw [← hfl,e3]⟩
       ·refine em [] trivial ⟨cq,cq,cq,cq,cq,cq,cq,cq,tt⟩ ⟨obs rfl,obs rfl,tt⟩
       ·(try simp only []);first | omega | grind
      ·have hsk:¬ (z.testBit x.go.toNat=true∨a.1.over=true):=by simp only [bor]at h15;simpa using h15
       have e3:D5 (stepS p b n s picks) z a x=(stepS p b n s picks x a.2 a.1,a.2 ||| 2 ^ x.go.toNat):=if_neg hsk;have hov:a.1.over=false:=by simpa using fun e=>hsk (.inr e)
       obtain ⟨u,hu⟩:∃ u,stepS p b n s picks x a.2 a.1=u:=⟨_,rfl⟩;have hu2:(u.cnt:Int)≤b.runs:=by rw [← hu];exact Hg hb hov hac
       rw [hu]at e3;refine sk (sq (drs [CG.pure (.tup [encS (doF p s x b.fuel).1,lM (doF p s x b.fuel).2.1,.int (doF p s x b.fuel).2.2])] rfl ?_ ?_))
       ·clear ih;have hq:=QE p s x b.fuel hs
        exact au
       refine sq ?_;refine WP.ent (st':=aP [(0,.ptr (.b 0) 1 0 []),(2,eG picks),(5,.rp 62 (encS s)),(7,.rp 161 (oO z)),(11,oO a.2),(13,.rp 122 (aO x)),(14,.rp 62 (encS (doF p s x b.fuel).1)),(73,eG (aS p s)),(74,.int (aS p s).length),(75,.int i)] [(.b 0,ssO p b a.1),(.b 1,dB a.1.runs)]) ?_ ?_
       ·refine em [(.s 14 0,1)] ⟨sF,tt⟩ ⟨cq,cq,cq,cq,cq,cq,rq,cq,cq,cq,tt⟩ ⟨obs rfl,obs rfl,tt⟩
       refine drs [CG.pure (.row 122 true picks.length (fun i=>aO (picks.getD i dN))),CG.pure (oO (Am p s a.2 x.go)),⟨true,[.b 0,.b 1],.tup [],[ssO p b u,dB u.runs]⟩] rfl ?_ ?_
       ·have hq1:=JB picks;have hq2:=OC p s a.2 x.go hs ha2
        have hbt:(T 122).bytes=16:=rfl;have hk1:lg [.b 0,.b 1] [ssO p b a.1,dB a.1.runs]:=kZ rfl
        have hk2:lg (bs 2) [ssO p b u,dB u.runs]:=kZ rfl;have ih1:=ih n rfl
        clear ih;have hps:picks.length+1+n=b.steps.toNat:=by omega
        have hpl:picks.length<256:=by omega
        have hod:=QD (p:=p) (x:=x) (n:=b.fuel) hs;have hlf:Am p s a.2 x.go<64:=uU p s a.2 x.go 6
        have hu':=hu.symm;simp only [aj,under,CG.pure]
        repeat' with_reducible refine And.intro ?_ ?_
        all_goals (try with_reducible intros)
        all_goals (first | exact trivial | assumption | omega | exact hq1 | exact hq2 | (refine (congrArg dw (NH picks x _ ?_ ?_)).trans rfl <;> first | rfl | omega) | (rw [hu'];exact NV ih1 _ picks x _ a.1 hps hod hlf hov hac (by rfl) (fun j hj=>NH picks x j hj (by rfl))) | (rw [hbt];omega) | (simp;done) | trace_state)
       refine WP.ent (st':=aP [(0,.ptr (.b 0) 1 0 []),(2,eG picks),(5,.rp 62 (encS s)),(7,.rp 161 (oO z)),(11,oO a.2),(13,.rp 122 (aO x)),(73,eG (aS p s)),(74,.int (aS p s).length),(75,.int i)] [(.b 0,ssO p b u),(.b 1,dB u.runs)]) ?_ ?_
       ·refine em [] trivial ⟨cq,cq,cq,cq,cq,cq,cq,cq,cq,tt⟩ ⟨obs rfl (hg:=q0 (ah (kX rfl p b _))),obs rfl (hg:=fun q hq=>ah (iT _ _)),tt⟩
       refine rgs [CG.pure (oO (a.2 ||| 2 ^ x.go.toNat))] rfl ?_ ?_
       ·clear ih;have hq:=GN a.2 x.go.toNat ha2 (by omega)
        rw [hxn]at hq;exact au
       refine rg [] rfl ?_;refine ⟨⟨i+1,(u,a.2 ||| 2 ^ x.go.toNat)⟩,?_,?_,?_⟩
       ·exact ⟨hil,Qn ha2 (by omega),hu2,by rw [← hfl,e3]⟩
       ·refine em [] trivial ⟨cq,cq,cq,cq,cq,cq,cq,cq,tt⟩ ⟨obs rfl,obs rfl,tt⟩
       ·(try simp only []);first | omega | grind
     ·have hil:i=(aS p s).length:=by simp [-List.getD_eq_getElem?_getD]at h13;omega
      refine xt ?_;rw [hil,List.drop_length]at hfl;have hfl:a=_:=hfl
      rw [← hfl];exact aH hT [] (ts:=[]) (l:=[]) trivial trivial ⟨obs rfl,obs rfl,tt⟩ rfl rfl rfl
structure Po where
 all:List GK
 whole:Bool
 deriving DecidableEq
def og (x:Po):AV:=bG 32 [rowP 45 xA Q9 x.all,.bool x.whole]
theorem Nb {p:ay} {b:iy} (hb:JZ b):∀ k,NW p b k
 | 0=>fun s picks z t h1 h2 h3 h4 h5=>DR p b hb 0 (fun _ e=>by cases e) s picks z t h1 h2 h3 h4 h5
 | k+1=>fun s picks z t h1 h2 h3 h4 h5=>DR p b hb (k+1) (fun j e=>by cases e;exact Nb hb k) s picks z t h1 h2 h3 h4 h5
theorem NY {p:ay} {b:iy} (hb:JZ b) (s:PSt) (h2:OkS s):AC Tryz.prog T aV 119 [.ptr (.b 0) 1 0 [],ren (sig [.s 23 0,.s 900 0] 0) (encS s),.v (.slice none 0 0),oO 0] [iG (sig [.s 23 0,.s 900 0] 0) (.cells ⟨150,1,fun _=>kR (.s 900 0) p b ss0,0⟩),iG (sig [.s 23 0,.s 900 0] 0) (dB [])] (.tup []) [ssO p b (pV p b b.steps.toNat s [] 0 ss0),dB (pV p b b.steps.toNat s [] 0 ss0).runs]:=by
 have e:iG (sig [.s 23 0,.s 900 0] 0) (.cells ⟨150,1,fun _=>kR (.s 900 0) p b ss0,0⟩)=ssO p b ss0:=by
  show Ob.cells ⟨_,_,fun _=>ren _ (kR (.s 900 0) p b ss0),_⟩=_;rw [kX (j := .b 1) rfl]
 rw [KC,e,jk (iT _)];refine AC.args hT (Nb hb b.steps.toNat s [] 0 ss0 (by simp) h2 (by decide) rfl (by have:=hb.2.2;show ((0:Nat):Int)≤_;omega)) rfl (fun i a c ha hc=>?_)
 match i,ha,hc with
 | 0,ha,hc=>cases ha;cases hc;exact ah rfl
 | 1,ha,hc=>cases ha;cases hc;exact ah rfl
 | 2,ha,hc=>cases ha;cases hc;exact dX (by decide)
 | 3,ha,hc=>cases ha;cases hc;exact ah rfl
abbrev Ou:AV := .v (.pointer none)
theorem rU (p:ay) (b:iy) (hf:dP p 0 b≠0):AC Tryz.prog T aV 73 [aC p,bK b] [] (.tup [Ou,.int (dP p 0 b)]) []:=by
 refine aA hT Tryz.func73 rfl rfl (Nat.le_of_ble_eq_true rfl) ?_;refine sg rfl ?_;refine sq (sq ?_);refine WP.ent (st':=aP [(2,.rp 26 (aC p)),(3,.rp 28 (bK b)),(4,Ou),(5,.int 0)] []) (em [(.s 2 0,1),(.s 3 0,1)] ⟨sF,sF,tt⟩ ⟨rq,rq,cq,cq,tt⟩ trivial) ?_;refine rgs [CG.pure (.tup [eG (nI p b),.int (dP p 0 b)])] rfl ?_ ?_
 ·have hq:=DZ p b;exact au
 refine sg rfl ?_;refine cd rfl (fun h2=>?_) (fun h2=>?_)
 ·refine sg rfl ?_;exact WP.ret (aH hT [] (ts:=[(4,Ou),(5,.int (dP p 0 b))]) (l:=[Ou,.int (dP p 0 b)]) trivial ⟨cq,cq,tt⟩ trivial rfl rfl rfl)
 ·exact absurd (by simpa using h2) hf
theorem zJ (p:ay) (b:iy) (hf:dP p 0 b=0):AC Tryz.prog T aV 73 [aC p,bK b] [] (.tup [.ptr (.b 0) 1 0 [],.int 0]) [ssO p b (cO p b),dB (cO p b).runs]:=by
 refine aA hT Tryz.func73 rfl rfl (Nat.le_of_ble_eq_true rfl) ?_;have hb:=(LQ hf).2.2
 refine sg rfl ?_;refine sq (sq ?_);refine WP.ent (st':=aP [(2,.rp 26 (aC p)),(3,.rp 28 (bK b)),(4,Ou),(5,.int 0)] []) (em [(.s 2 0,1),(.s 3 0,1)] ⟨sF,sF,tt⟩ ⟨rq,rq,cq,cq,tt⟩ trivial) ?_;refine rgs [CG.pure (.tup [eG (nI p b),.int (dP p 0 b)])] rfl ?_ ?_
 ·have hq:=DZ p b;exact au
 refine sg rfl ?_;refine cd rfl (fun h2=>?_) (fun h2=>?_)
 ·rw [hf]at h2;cases h2
 ·refine sk (sq (rg [] rfl ?_));refine sq (rgs [CG.pure (.tup [encS (dV p b.fuel).1,.int (dV p b.fuel).2])] rfl ?_ ?_)
  ·have hq:=DN p b.fuel;exact au
  refine sq ?_;refine WP.ent (st':=aP [(8,.ptr (.s 23 0) 1 0 []),(9,.rp 62 (encS (dV p b.fuel).1))] [(.s 23 0,.cells ⟨150,1,fun _=>kR (.s 900 0) p b ss0,0⟩),(.s 900 0,dB [])]) ?_ ?_
  ·refine em [(.s 9 0,1)] ⟨sF,tt⟩ ⟨cq,rq,tt⟩ ⟨obs rfl (hg:=q0 ⟨_,rfl,fun i hi=>by match i with | 0 | 1 | 3 | 4 | 5=>exact ah rfl | 2=>exact jc | i+6=>exact absurd hi (by simp)⟩),⟨fun _ _=>rfl,.inr ⟨rfl,45,_,rfl,by decide⟩⟩,tt⟩
  refine rgs [⟨true,[.s 23 0,.s 900 0],.tup [],[ssO p b (pV p b b.steps.toNat (dV p b.fuel).1 [] 0 ss0),dB (pV p b b.steps.toNat (dV p b.fuel).1 [] 0 ss0).runs]⟩] rfl ?_ ?_
  ·have hq:=NY (p:=p) hb (dV p b.fuel).1 DL;have hk1:lg [.s 23 0,.s 900 0] [.cells ⟨150,1,fun _=>kR (.s 900 0) p b ss0,0⟩,dB []]:=⟨fun _ _=>rfl,fun _ _=>rfl,tt⟩
   have hk2:lg (bs 2) [ssO p b (pV p b b.steps.toNat (dV p b.fuel).1 [] 0 ss0),dB (pV p b b.steps.toNat (dV p b.fuel).1 [] 0 ss0).runs]:=kZ rfl;exact au
  refine sq ?_;obtain ⟨z,hz⟩:∃ z,pV p b b.steps.toNat (dV p b.fuel).1 [] 0 ss0=z:=⟨_,rfl⟩;have hz0:cO p b=z:=by rw [cO,if_pos hf,hz]
  rw [hz];refine WP.ent (st':=aP [(8,.ptr (.s 23 0) 1 0 [])] [(.s 23 0,.cells ⟨150,1,fun _=>kR (.s 900 0) p b z,0⟩),(.s 900 0,dB z.runs)]) ?_ ?_
  ·refine em [] trivial ⟨cq,tt⟩ ⟨obs rfl (hg:=q0 (ah (kX (i := .b 1) rfl p b z))),obs rfl (hg:=fun q hq=>ah (iT _ _)),tt⟩
  refine rg [] rfl ?_;refine WP.ret ?_;change Fin ..;rw [hz0];refine yL hT [] [.s 23 0,.s 900 0] (ts:=[(4,.ptr (.b 0) 1 0 []),(5,.int 0)]) (l:=[.ptr (.b 0) 1 0 [],.int 0]) trivial rfl ⟨⟨_,.ptr (.s 23 0) 1 0 [],rfl,ah rfl,rfl,rfl⟩,⟨_,.int 0,rfl,ah rfl,rfl,rfl⟩,tt⟩ ⟨.inl ⟨_,.cells ⟨150,1,fun _=>kR (.s 900 0) p b z,0⟩,rfl,⟨fun _=>kR (.s 900 0) p b z,0,rfl,Nat.le_refl _,Nat.zero_le _,Nat.zero_le _,q0 (ah rfl)⟩,fun _ _=>rfl,?_⟩,.inl ⟨_,dB z.runs,rfl,⟨_,_,rfl,Nat.le_refl _,Nat.zero_le _,Nat.zero_le _,fun i hi=>ah rfl⟩,fun _ _=>rfl,(jk (iT _)).symm⟩,tt⟩ rfl rfl;show ssO p b z=Ob.cells ⟨150,1,fun _=>ren _ (kR (.s 900 0) p b z),0⟩
  rw [kX (j := .b 1) rfl]
theorem pY (p:ay) (b:iy) (hf:dP p 0 b=0):AC Tryz.prog T aV 73 [ren (sig [] 0) (aC p),ren (sig [] 0) (bK b)] (List.map (iG (sig [] 0)) []) (.tup [.ptr (.b 0) 1 0 [],.int 0]) [ssO p b (cO p b),dB (cO p b).runs]:=by
 rw [sS,Ib];exact zJ p b hf
def Gx (p:ay) (b:iy):Po:=if dP p 0 b=0 then ⟨(cO p b).runs,!(cO p b).over && !(cO p b).short⟩else ⟨[],false⟩
abbrev Rt (p:ay) (b:iy) (t:SS):AV:=bG 150 [aC p,bK b,rowP 45 xA Q9 t.runs,.int t.given,.bool t.over,.bool t.short]
theorem MR (p:ay) (b:iy) (hf:dP p 0 b≠0):AC Tryz.prog T aV 33 [aC p,bK b] [] (.tup [og (Gx p b),.int (dP p 0 b)]) []:=by
 refine aA hT Tryz.func33 rfl rfl (Nat.le_of_ble_eq_true rfl) ?_;refine sg rfl ?_;refine sq ?_;refine WP.ent (st':=aP [(2,.rp 26 (aC p)),(3,.rp 28 (bK b)),(5,.int 0),(4,.ptr (.s 4 0) 1 0 [])] [(.s 4 0,.cells ⟨32,1,fun _=>(T 32).zero,0⟩)]) (em [(.s 2 0,1),(.s 3 0,1)] ⟨sF,sF,tt⟩ ⟨rq,rq,cq,cq,tt⟩ ⟨obs rfl,tt⟩) ?_;refine rgs [CG.pure (.tup [Ou,.int (dP p 0 b)])] rfl ?_ ?_
 ·have hq:=rU p b hf;exact au
 refine sq (sq (rg [] rfl ?_));refine cd rfl (fun h2=>?_) (fun h2=>?_)
 ·refine sg rfl ?_;refine WP.ret ?_;change Fin ..;rw [Gx,if_neg hf];exact vI hT rfl rfl rfl ⟨_,rfl,fun i hi=>by match i with | 0=>exact dX (by decide) | 1=>exact ah rfl | i+2=>exact absurd hi (by simp)⟩ rfl
 ·exact absurd (by simpa using h2) hf
theorem MQ (p:ay) (b:iy) (hf:dP p 0 b=0):AC Tryz.prog T aV 33 [aC p,bK b] [] (.tup [og (Gx p b),.int (dP p 0 b)]) []:=by
 refine aA hT Tryz.func33 rfl rfl (Nat.le_of_ble_eq_true rfl) ?_;refine sg rfl ?_;refine sq ?_;refine WP.ent (st':=aP [(2,.rp 26 (aC p)),(3,.rp 28 (bK b)),(5,.int 0),(4,.ptr (.s 4 0) 1 0 [])] [(.s 4 0,.cells ⟨32,1,fun _=>(T 32).zero,0⟩)]) (em [(.s 2 0,1),(.s 3 0,1)] ⟨sF,sF,tt⟩ ⟨rq,rq,cq,cq,tt⟩ ⟨obs rfl,tt⟩) ?_;refine rgs [⟨true,[],.tup [.ptr (.b 0) 1 0 [],.int 0],[ssO p b (cO p b),dB (cO p b).runs]⟩] rfl ?_ ?_
 ·have hq:=pY p b hf;have hk2:lg (bs 2) [ssO p b (cO p b),dB (cO p b).runs]:=kZ rfl
  exact au
 refine sq (sq (rg [] rfl ?_));refine cd rfl (fun h2=>?_) (fun h2=>?_)
 ·cases h2
 ·refine sk (sq ?_);obtain ⟨z,hz⟩:∃ z,cO p b=z:=⟨_,rfl⟩;rw [Gx,if_pos hf,hz];refine WP.ent (st':=aP [(4,.ptr (.s 4 0) 1 0 []),(6,.ptr (.s 11 1) 1 0 [])] [(.s 4 0,.cells ⟨32,1,fun _=>(T 32).zero,0⟩),(.s 11 1,.cells ⟨150,1,fun _=>kR (.s 11 2) p b z,0⟩),(.s 11 2,dB z.runs)]) (em [] trivial ⟨cq,cq,tt⟩ ⟨obs rfl,obs rfl (hg:=q0 (ah (kX (i := .b 1) rfl p b z))),obs rfl (hg:=fun q hq=>ah (iT _ _)),tt⟩) ?_;refine WP.ent (st':=aP [(4,.ptr (.s 4 0) 1 0 []),(6,.ptr (.s 11 1) 1 0 [])] [(.s 4 0,.cells ⟨32,1,fun _=>(T 32).zero,0⟩),(.s 11 1,.cells ⟨150,1,fun _=>Rt p b z,0⟩)]) ?_ ?_
  ·refine em [(.s 11 2,z.runs.length)] ⟨⟨_,rfl,Nat.le_refl _⟩,tt⟩ ⟨cq,cq,tt⟩ ⟨obs rfl,obs rfl (hg:=q0 ⟨_,rfl,fun i hi=>by match i with | 0 | 1 | 3 | 4 | 5=>exact ah rfl | 2=>exact jm rfl rfl rfl (fun h=>by cases h) (by simp [eH,aN]) (fun q hq=>by rw [Nat.zero_add];exact ⟨rfl,AEq.refl _⟩) | i+6=>exact absurd hi (by simp)⟩),tt⟩
  refine dr [] rfl ?_;refine WP.ret ?_;change Fin ..;rw [hf];exact vI hT rfl rfl rfl (ah (aW fun q=>by match q with | 0=>rfl | 1=>exact congrArg (fun x=>AV.bool x) (band _ _) | q+2=>rfl)) rfl
theorem JM (p:ay) (b:iy):AC Tryz.prog T aV 33 [aC p,bK b] [] (.tup [og (Gx p b),.int (dP p 0 b)]) []:=by
 by_cases hf:dP p 0 b=0
 ·exact MQ p b hf
 ·exact MR p b hf
def BK (p:ay) (b:iy):Int×Int:=if dP p 0 b=0 then ((cO p b).runs.length,(cO p b).given)else (0,0)
theorem NR (p:ay) (b:iy) (hf:dP p 0 b≠0):AC Tryz.prog T aV 35 [aC p,bK b] [] (.tup [.int (BK p b).1,.int (BK p b).2,.int (dP p 0 b)]) []:=by
 refine aA hT Tryz.func35 rfl rfl (Nat.le_of_ble_eq_true rfl) ?_;refine sg rfl ?_;refine sq ?_;refine WP.ent (st':=aP [(2,.rp 26 (aC p)),(3,.rp 28 (bK b))] []) (em [(.s 2 0,1),(.s 3 0,1)] ⟨sF,sF,tt⟩ ⟨rq,rq,tt⟩ trivial) ?_;refine rgs [CG.pure (.tup [Ou,.int (dP p 0 b)])] rfl ?_ ?_
 ·have hq:=rU p b hf;exact au
 refine sq (sq (rg [] rfl ?_));refine cd rfl (fun h2=>?_) (fun h2=>?_)
 ·refine sg rfl ?_;refine WP.ret ?_;change Fin ..;rw [BK,if_neg hf];exact aH hT [] (ts:=[(4,.int 0),(5,.int 0),(6,.int (dP p 0 b))]) (l:=[.int 0,.int 0,.int (dP p 0 b)]) trivial ⟨cq,cq,cq,tt⟩ trivial rfl rfl rfl
 ·exact absurd (by simpa using h2) hf
theorem NQ (p:ay) (b:iy) (hf:dP p 0 b=0):AC Tryz.prog T aV 35 [aC p,bK b] [] (.tup [.int (BK p b).1,.int (BK p b).2,.int (dP p 0 b)]) []:=by
 refine aA hT Tryz.func35 rfl rfl (Nat.le_of_ble_eq_true rfl) ?_;refine sg rfl ?_;refine sq ?_;refine WP.ent (st':=aP [(2,.rp 26 (aC p)),(3,.rp 28 (bK b))] []) (em [(.s 2 0,1),(.s 3 0,1)] ⟨sF,sF,tt⟩ ⟨rq,rq,tt⟩ trivial) ?_;refine rgs [⟨true,[],.tup [.ptr (.b 0) 1 0 [],.int 0],[ssO p b (cO p b),dB (cO p b).runs]⟩] rfl ?_ ?_
 ·have hq:=pY p b hf;have hk2:lg (bs 2) [ssO p b (cO p b),dB (cO p b).runs]:=kZ rfl
  exact au
 refine sq (sq (rg [] rfl ?_));refine cd rfl (fun h2=>?_) (fun h2=>?_)
 ·cases h2
 ·refine sk (sq ?_);obtain ⟨z,hz⟩:∃ z,cO p b=z:=⟨_,rfl⟩;rw [BK,if_pos hf,hz];refine dr [] rfl ?_;refine WP.ret ?_;change Fin ..;rw [hf];exact aH hT [] (ts:=[(4,.int z.runs.length),(5,.int z.given),(6,.int 0)]) (l:=[.int z.runs.length,.int z.given,.int 0]) trivial ⟨cq,cq,cq,tt⟩ trivial rfl rfl rfl
theorem GU (p:ay) (b:iy):AC Tryz.prog T aV 35 [aC p,bK b] [] (.tup [.int (BK p b).1,.int (BK p b).2,.int (dP p 0 b)]) []:=by
 by_cases hf:dP p 0 b=0
 ·exact NQ p b hf
 ·exact NR p b hf
structure Rd (b:iy) (t:TS) (L:List (GK×PSt)) (sp:Bool) (r:TS):Prop where
 runs:r.runs=(t.runs++L.map (·.1)).take b.runs.toNat
 ends:r.ends=(t.ends++L.map (·.2)).take b.runs.toNat
 over:r.over=decide (b.runs.toNat<t.runs.length+L.length)
 spun:r.over=false→r.spun=(t.spun||sp)
 short:r.over=false→r.short=(t.short||L.any fun x=>x.1.cut)
structure RP (b:iy) (t:TS):Prop where
 len:t.runs.length≤b.runs.toNat
 even:t.ends.length=t.runs.length
theorem Rd.ok {b:iy} {t:TS} {L:List (GK×PSt)} {sp:Bool} {r:TS} (ht:RP b t) (h:Rd b t L sp r):RP b r :=
 ⟨by rw [h.runs,List.length_take];omega,by rw [h.runs,h.ends,List.length_take,List.length_take];simp [ht.even]⟩
def Nc:iW:=⟨0,0,[⟨64,0,0,0,0⟩,⟨45,0,0,0,0⟩],[]⟩
theorem Ig (b:iy) (x:Int):(bK b).put [2] (.int x)=bK { b with runs:=x}:=aT (Nat.le_of_ble_eq_true rfl)
def P7:iW:=⟨0,1,[⟨62,-1,1,0,0⟩,⟨64,0,0,0,0⟩,⟨45,0,0,0,0⟩],[]⟩
def DU:ay:=⟨[],0,[],[P7,Nc]⟩
def GI:iy:=⟨9,9,9⟩
set_option maxRecDepth 100000 in
theorem zF:(Gx DU GI).all.length=1∧(Gx DU GI).whole=true∧BK DU GI=(1,1)∧dP DU 0 GI=0:=by decide+kernel
abbrev sq0:AV:=bG 26 [.v (.slice none 0 0),.int 0,.v (.slice none 0 0),.own (.s 17 0) 2 0 2 none]
theorem MP (r:Po) (h:Gx DU GI=r):AC Tryz.prog T aV 33 [aC DU,bK GI] [] (.tup [og r,.int 0]) []:=by
 have e:=JM DU GI;rw [h,zF.2.2.2]at e;exact e
theorem J8:AC Tryz.prog T aV 35 [aC DU,bK GI] [] (.tup [.int 1,.int 1,.int 0]) []:=by
 have e:=GU DU GI;rw [zF.2.2.1,zF.2.2.2]at e;exact e
theorem Fp:AC Tryz.prog T aV 37 [] [] (.bool true) []:=by
 refine aA hT Tryz.func37 rfl rfl (Nat.le_of_ble_eq_true rfl) ?_;refine sg rfl ?_;refine sq (rg [CG.mine,CG.mine,CG.mine] rfl ?_);refine sq ?_;refine WP.ent (st':=aP [(1,.ptr (.s 1 0) 1 0 [])] [(.s 1 0,.cells ⟨26,1,fun _=>sq0,0⟩),(.s 17 0,bJ 100 lG yI [P7,Nc])]) (em [(.s 11 0,3),(.s 15 0,2)] ⟨⟨_,rfl,Nat.le_refl _⟩,⟨_,rfl,Nat.le_refl _⟩,tt⟩ ⟨cq,tt⟩ ⟨obs rfl (hg:=q0 (ah (aW fun q=>by match q with | 0 | 1 | 2 | 3 | q+4=>rfl))),obs rfl (hg:=fun j hj=>?_),tt⟩) ?_
 ·match j,hj with
  | 0,_ =>
   refine ⟨_,rfl,fun i hi=>?_⟩
   match i,hi with
   | 0,_=>exact ah rfl
   | 1,_=>exact ah rfl
   | 2,_=>exact jm rfl rfl rfl (fun h=>by cases h) (Nat.le_refl _) (fun j hj=>by match j,hj with | 0,_=>exact ⟨rfl,AEq.of_eq (aW fun q=>by match q with | 0 | 1 | 2 | 3 | 4 | q+5=>rfl)⟩ | 1,_=>exact ⟨rfl,AEq.of_eq (aW fun q=>by match q with | 0 | 1 | 2 | 3 | 4 | q+5=>rfl)⟩ | 2,_=>exact ⟨rfl,AEq.of_eq (aW fun q=>by match q with | 0 | 1 | 2 | 3 | 4 | q+5=>rfl)⟩)
   | 3,_=>exact dX (by decide)
  | 1,_ =>
   refine ⟨_,rfl,fun i hi=>?_⟩
   match i,hi with
   | 0,_=>exact ah rfl
   | 1,_=>exact ah rfl
   | 2,_=>exact jm rfl rfl rfl (fun h=>by cases h) (Nat.le_refl _) (fun j hj=>by match j,hj with | 0,_=>exact ⟨rfl,AEq.of_eq (aW fun q=>by match q with | 0 | 1 | 2 | 3 | 4 | q+5=>rfl)⟩ | 1,_=>exact ⟨rfl,AEq.of_eq (aW fun q=>by match q with | 0 | 1 | 2 | 3 | 4 | q+5=>rfl)⟩)
   | 3,_=>exact dX (by decide)
 refine WP.ent (st':=aP [(1,.ptr (.s 1 0) 1 0 [])] [(.s 1 0,.cells ⟨26,1,fun _=>aC DU,0⟩)]) (em [(.s 17 0,2)] ⟨⟨_,rfl,Nat.le_refl _⟩,tt⟩ ⟨cq,tt⟩ ⟨obs rfl (hg:=q0 ?_),tt⟩) ?_
 ·refine ⟨_,rfl,fun i hi=>?_⟩
  match i,hi with
  | 0,_=>exact dX (by decide)
  | 1,_=>exact ah rfl
  | 2,_=>exact dX (by decide)
  | 3,_=>exact jm rfl rfl rfl (fun h=>by cases h) (Nat.le_refl _) (fun j hj=>by match j,hj with | 0,_=>exact ⟨rfl,AEq.refl _⟩ | 1,_=>exact ⟨rfl,AEq.refl _⟩)
 refine WP.ent (st':=aP [(1,.rp 26 (aC DU))] []) (em [(.s 1 0,1)] ⟨sF,tt⟩ ⟨rq,tt⟩ trivial) ?_;refine rg [] rfl ?_;refine sq ?_;obtain ⟨r,hr⟩:∃ r,Gx DU GI=r:=⟨_,rfl⟩;have hr1:=zF.1
 have hr2:=zF.2.1;rw [hr]at hr1 hr2;refine WP.ent (st':=aP [(1,.rp 26 (aC DU)),(2,.rp 28 (bK GI))] []) ?_ ?_
 ·refine em [(.s 2 0,1)] ⟨sF,tt⟩ ⟨cq,⟨rfl,_,rfl,eY rfl rfl (by decide) rfl (aW fun q=>by match q with | 0 | 1 | 2 | q+3=>rfl) rfl⟩,tt⟩ trivial
 refine rgs [CG.pure (.tup [og r,.int 0])] rfl ?_ ?_
 ·have hq:=MP r hr;exact au
 refine sq ?_;refine WP.ent (st':=aP [(1,.rp 26 (aC DU)),(2,.rp 28 (bK GI)),(3,.rp 32 (og r)),(4,.int 0)] []) ?_ ?_
 ·refine em [(.s 3 0,1)] ⟨sF,tt⟩ ⟨cq,cq,rq,cq,tt⟩ trivial
 refine rgs [CG.pure (.tup [.int 1,.int 1,.int 0])] rfl ?_ ?_
 ·have hq:=J8;exact au
 refine sg rfl ?_;exact WP.ret (fin1 hT (by rfl) (by simp [hr1,hr2]))
theorem Fh (p:ay) (b0:iy):AC Tryz.prog T aV 10 [aC p,bK b0] [] (.bool true) []:=by
 refine aA hT Tryz.func10 rfl rfl (Nat.le_of_ble_eq_true rfl) ?_;refine sg rfl ?_;refine WP.seqJ (α:=iy) (fun b=>aP [(2,.rp 26 (aC p)),(3,.rp 28 (bK b)),(4,.bool false)] []) (fun b=>True) ?_ ?_
 ·refine sq ?_;refine WP.ent (st':=aP [(2,.rp 26 (aC p)),(4,.bool false),(3,.ptr (.s 3 0) 1 0 [])] [(.s 3 0,.cells ⟨28,1,fun _=>bK b0,0⟩)]) (em [(.s 2 0,1)] ⟨sF,tt⟩ ⟨rq,cq,cq,tt⟩ ⟨obs rfl,tt⟩) ?_;refine rg [] rfl ?_;refine cd rfl (fun h1=>?_) (fun h1=>?_)
  ·refine rg [] rfl ?_;refine ⟨{ b0 with runs:=300},?_,?_⟩
   ·trivial
   ·refine em [(.s 3 0,1)] ⟨sF,tt⟩ ⟨cq,⟨rfl,_,rfl,eY rfl rfl (by decide) rfl (Ig b0 300) rfl⟩,cq,tt⟩ trivial
  ·refine sk ?_;refine ⟨b0,?_,?_⟩
   ·trivial
   ·refine em [(.s 3 0,1)] ⟨sF,tt⟩ ⟨cq,rq,cq,tt⟩ trivial
 ·rintro b h_inv;refine sq (rgs [CG.pure (.tup [og (Gx p b),.int (dP p 0 b)])] rfl ?_ ?_)
  ·have hq:=JM p b;exact au
  refine sq ?_;refine WP.ent (st':=aP [(2,.rp 26 (aC p)),(3,.rp 28 (bK b)),(4,.bool false),(5,.rp 32 (og (Gx p b))),(6,.int (dP p 0 b))] []) ?_ ?_
  ·refine em [(.s 5 0,1)] ⟨sF,tt⟩ ⟨cq,cq,cq,rq,cq,tt⟩ trivial
  refine rgs [CG.pure (.tup [.int (BK p b).1,.int (BK p b).2,.int (dP p 0 b)])] rfl ?_ ?_
  ·have hq:=GU p b;exact au
  refine sq (sq (rg [] rfl ?_));refine cd rfl (fun h5=>?_) (fun h5=>?_)
  ·have hf:dP p 0 b≠0:=by simp only [bor]at h5;simpa using h5
   have ht:BK p b=(0,0):=by rw [BK,if_neg hf]
   rw [ht];refine sq (rgs [CG.pure (.bool true)] rfl ?_ ?_)
   ·have hq:=Fp;exact au
   exact WP.ret (fin1 hT (by rfl) (by simp))
  ·have hf:dP p 0 b=0:=by simp only [bor]at h5;simpa using h5
   have hl:=Ho hf;have hb:=(LQ hf).2.2.2.2
   have ht:BK p b=(((cO p b).runs.length:Int),((cO p b).given:Int)):=by rw [BK,if_pos hf]
   have ha:(Gx p b).all=(cO p b).runs:=by rw [Gx,if_pos hf]
   rw [ht];obtain ⟨hl1,hl2⟩:=hl;unfold SS.cnt at hl1 hl2;refine sk (sq (rg [] rfl ?_));refine WP.ret ?_;change Fin ..;refine fin1 hT (by rfl) ?_;have hw:IntKind.i64.wrap (((cO p b).runs.length:Int)+((cO p b).given:Int))=((cO p b).runs.length:Int)+((cO p b).given:Int):=cu (by omega) (by omega)
   rw [hw,ha];have e1:((((cO p b).runs.length:Int))==((cO p b).runs.length:Int))=true:=beq_self_eq_true _
   have e2:decide (((cO p b).given:Int)≥0)=true:=decide_eq_true (by omega);have e3:decide (((cO p b).runs.length:Int)+((cO p b).given:Int)≤b.runs)=true:=decide_eq_true (by omega)
   rw [e1,e2,e3];rcases hl2 with h | h
   ·by_cases h6:0<(cO p b).runs.length
    ·rw [show decide (((cO p b).runs.length:Int)>0)=true from decide_eq_true (by omega)];rfl
    ·rw [show decide (((cO p b).given:Int)>0)=true from decide_eq_true (by omega)];simp
   ·rw [h];simp
end Go.Ab
