/- Part 20 of a proof of a statement about the given program: an abstract machine over the model, proved sound, and contracts of the functions that the statement reaches; the last part proves the statement, for every input, with no condition. -/
import Derived.Test.YtcfelhfcjdofoaaGreatDoorX17
import Derived.Test.YtcfelhfcjdofoaaGreatDoorX18
import Derived.Test.YtcfelhfcjdofoaaGreatDoorX15
import Derived.Test.YtcfelhfcjdofoaaGreatDoorX13
import Derived.Lib.ItoaNum
set_option autoImplicit false
set_option linter.unusedSimpArgs false
set_option linter.unusedVariables false
set_option maxHeartbeats 4000000
set_option maxRecDepth 20000
namespace Go.Ab
open Go.Proofs Go.Sort
structure BT where
 k:_root_.Fin 8
 n:_root_.Fin 8
 w:Bool
 deriving DecidableEq
def jL:BT:=⟨0,0,false⟩
instance:Inhabited BT:=⟨jL⟩
def BT.t (x:BT):MH:=⟨(x.k.val:Nat),(x.n.val:Nat),x.w⟩
def fD (x:BT):AV:=sD x.t
def Qb (x:BT):List Value:=[.int .i64 (x.k.val:Nat),.int .i64 (x.n.val:Nat),.bool x.w]
theorem dN (ids:List Id) (x:BT):fP ids (fD x)=true:=rfl
theorem acr (x y:AV):x.put [] y=y:=by cases x <;> rfl
theorem jy (a:Id->Id) (x:BT):ren a (fD x)=fD x:=bY (λq=>by match q with | 0 | 1 | 2 | q+3=>rfl)
theorem Yq (x:BT):EG T aI 5 (fD x)=some (Qb x):=rfl
theorem abQ:ab7 T aI 134 3 fD Qb where
 len _:=rfl
 one x v hv:=by simp [Qb]at hv;rcases hv with rfl | rfl | rfl <;> rfl
 rep I ρ x:=(OX (Yq x)).1 I ρ
 uni I ρ x cs h:=(OX (Yq x)).2 I ρ cs h
 fits x:=rfl
 pack x:=rfl
 size:=rfl
 pos:=by decide
def Iw (x y:BT):Int:=if x.k≠y.k then (x.k.val:Int) - y.k.val else (x.n.val:Int) - y.n.val
theorem YV (x y:BT):AC Tryz.prog T aI 222 [fD x,fD y] [] (.int (Iw x y)) []:=by
 refine aX Tryz.func222 ?_;refine sg rfl (sq (sq (rg [] rfl ?_)));refine cd rfl (λb=>?_) (λb=>?_)
 ·(have c:x.k≠y.k:=by intro e;have a:(((x.k.val:Nat):Int) != ((y.k.val:Nat):Int))=true:=b;rw [e]at a;simp at a);refine sg rfl (rX ?_);refine bn hT (by rfl) ?_;rw [Iw,aaW c];show IntKind.i64.wrap (((x.k.val:Nat):Int) - ((y.k.val:Nat):Int))=_;exact bK (by omega) (by omega)
 (have he:x.k=y.k:=by have a:(((x.k.val:Nat):Int) != ((y.k.val:Nat):Int))=false:=b;simp at a;omega);refine sk (sq (rg [] rfl ?_));refine rX ?_;refine bn hT (by rfl) ?_;rw [Iw,MC (λh=>h he)];show IntKind.i64.wrap (((x.n.val:Nat):Int) - ((y.n.val:Nat):Int))=_;exact bK (by omega) (by omega)
theorem Cj (x y:BT):Go.Proofs.ltOf Iw x y=decide (x.k.val<y.k.val\/x.k.val=y.k.val/\x.n.val<y.n.val):=by
 unfold Go.Proofs.ltOf;apply decide_eq_decide.2;simp only [Iw];grind
theorem MZ:SWO (Go.Proofs.ltOf Iw) where
 irrefl x:=by rw [Cj];simp
 trans x y z h1 h2:=by rw [Cj]at *;simp at *;omega
 ntrans x y z h1 h2:=by rw [Cj]at *;simp at *;omega
def zM (l:List BT):Ob:=dA 134 fD default l
def jm (l:List BT):List BT:=jd Iw l
theorem VF (l:List BT) (hl:l.length<4611686018427387904):AC Tryz.prog T aI 221 [.own (.b 0) l.length 0 l.length none,.clo 222 []] [zM l] (.tup []) [zM (jm l)] :=
 WA hT Tryz.laySortA abQ Tryz.isAgg134 Tryz.sizeOf134 MZ (enters_of Tryz.func222 rfl rfl) YV ⟨_,Tryz.func221,rfl,rfl⟩ l hl
theorem LV (f g:BT):(f==g)=(((f.k.val:Nat):Int)==((g.k.val:Nat):Int)&&(((f.n.val:Nat):Int)==((g.n.val:Nat):Int)&&(f.w==g.w&&true))):=by
 obtain ⟨a,b,c⟩:=f;obtain ⟨i,j,l⟩:=g;rw [acC];simp [BT.mk.injEq,_root_.Fin.ext_iff];exact ⟨λ⟨e,h,d⟩=>⟨by omega,by omega,d⟩,λ⟨e,h,d⟩=>⟨by omega,by omega,d⟩⟩
theorem Pq (l:List BT):AC Tryz.prog T aI 223 [.own (.b 0) l.length 0 l.length none] [dA 134 fD jL l] (.own (.b 0) l.length 0 (dd jL l l.length).length none) [.cells ⟨134,l.length,λj=>bif Nat.blt j (dd jL l l.length).length then fD ((dd jL l l.length).getD j jL)else (T 134).zero,0⟩]:=by
 refine aX Tryz.func223 ?_;refine WP.ownlen 0 rfl rfl rfl (λhl=>?_);refine sg rfl (sq (sq (rg [] rfl ?_)));refine cd rfl (λv=>?_) (λv=>?_)
 ·refine sg rfl (rX ?_);have e:dd jL l l.length=l:=Ny jL (λj h0 w=>by simp at v;omega);rw [e];exact aG hT [] (ts:=[(2,.own (.b 0) l.length 0 l.length none)]) trivial ⟨⟨rfl,_,rfl,ah rfl⟩,tt⟩ ⟨⟨λ_ _=>SI (enc:=fD) (d:=jL) (λ_=>dN _ _) rfl _,.inl ⟨_,rfl,_,_,rfl,aa4 _,abO _,abO _,λq r=>ah (rF (show q<l.length from r) _ _).symm⟩⟩,tt⟩ rfl rfl rfl
 refine sk (sq (sq (rg [] rfl ?_)));refine bk (WP.loop (α:=Nat) (λi=>aN [(0,.own (.b 0) l.length 0 l.length none),(3,.int i)] [(.b 0,dA 134 fD jL l)]) (λi=>1<=i/\i<=l.length /\ ∀ j,0<j->j<i->l.getD j jL≠l.getD (j - 1) jL) (λi=>l.length - i) ?_ ?_);{refine ⟨1,?_,?_⟩;{exact ⟨aa4 _,by simp at v;omega,λj v h2=>by omega⟩};refine eX cX ⟨obs rfl,tt⟩};rintro i ⟨a0,hi,hn⟩;refine sq (sq (rg [] rfl ?_));refine cd rfl (λh4=>?_) (λh4=>?_);{(have o:i<l.length:=by simpa using h4);have e1:=F6 a0 (show i<2 ^ 63 by omega);have e2:=bK (n:=(i:Int) - 1) (by omega) (by omega);refine sk (sq (bk (sq (drs [] rfl ?_ ?_))));{simp [ay,under,e2];omega};refine cd rfl (λh6=>?_) (λh6=>?_);{(have s:l.getD i jL=l.getD (i - 1) jL:=by have e:(l.getD i jL==l.getD (IntKind.i64.wrap ((i:Int) - 1)).toNat jL)=true:=(LV _ _).trans h6;rw [e1]at e;simpa using e);refine sg rfl (sq (sq (rg [] rfl ?_)));refine bk (WP.loop (α:=List BT×Nat×Nat) (λ(⟨c,i2,k⟩:List BT×Nat×Nat)=>aN [(0,.own (.b 0) l.length 0 l.length none),(3,.int i2),(4,.own (.b 0) l.length i (l.length - i) none),(5,.int k)] [(.b 0,.cells ⟨134,l.length,λj=>fD (c.getD j jL),0⟩)]) (λ(⟨c,i2,k⟩:List BT×Nat×Nat)=>c.length=l.length/\1<=k/\i+k<=l.length/\c.take i2=dd jL l (i+k)/\i2=(dd jL l (i+k)).length/\i2<i+k /\ ∀ j,i+k<=j+1->c.getD j jL=l.getD j jL) (λ(⟨c,i2,k⟩:List BT×Nat×Nat)=>l.length - k) ?_ ?_);{refine ⟨(l,i,1),?_,?_⟩;{have e:=TP jL (by omega) s;have e':=Ro jL l i (by omega) hn;refine ⟨rfl,aa4 _,by omega,by rw [e,e'],by rw [e,e',adh];omega,by omega,λj w=>rfl⟩};refine eX cX ⟨obs rfl,tt⟩};rintro ⟨c,i2,k⟩ ⟨hc,a6,hk,g,f,t,a⟩;refine sq (sq (rg [] rfl ?_));refine cd rfl (λh9=>?_) (λh9=>?_);{(have u:i+k<l.length:=by simp at h9;omega);have e3:=F6 a6 (show k<2 ^ 63 by omega);have e4:=bK (n:=(k:Int) - 1) (by omega) (by omega);have r1:=a (i+k) (by omega);have r2:=a (i+k - 1) (by omega);(have e5:k - 1+i=i+k - 1:=by omega);(have y:k+i=i+k:=by omega);(have a8:c.getD (k+i) jL=l.getD (i+k) jL:=by rw [y];exact r1);refine sk (sq (bk (sq (drs [] rfl ?_ ?_))));{simp [ay,under,e4];omega};refine cd rfl (λm=>?_) (λm=>?_);{(have p:l.getD (i+k) jL≠l.getD (i+k - 1) jL:=by have e:(!(c.getD (k+i) jL==c.getD ((IntKind.i64.wrap ((k:Int) - 1)).toNat+i) jL))=true:=(acY Bool.not (LV _ _)).trans m;rw [e3,e5,y,r1,r2]at e;simpa using e);refine sq (rgs [] rfl ?_ ?_);{simp [ay,under];omega};refine rg [] rfl (rg [] rfl ?_);refine ⟨(c.set i2 (c.getD (k+i) jL),i2+1,k+1),?_,?_,?_⟩;{have em:=aaB jL p;refine ⟨by simpa using hc,by omega,by omega,?_,by rw [<- adK,em];simp;omega,by omega,λj w=>?_⟩;{rw [<- adK,em,a8,<- g];(have h2:i2<c.length:=by omega);apply List.ext_getElem?;intro q;rw [adL,List.getElem?_append,adh,aef (Nat.le_of_lt h2),adL];rcases Nat.lt_trichotomy q i2 with h | h | h;{rw [aaW (by omega),aaW h,aaW h,List.getElem?_set_ne (by omega)]};{subst h;simp [h2]};rw [MC (by omega),MC (by omega)];simp [show q - i2≠0 by omega]};simp only [aaV];rw [List.getElem?_set_ne (by omega)];have:=a j (by omega);simpa using this};{refine eX cX ⟨⟨λ_ _=>rfl,.inl ⟨_,rfl,_,_,rfl,aa4 _,by first | exact abO _ | omega,by first | exact abO _ | omega,λq r=>?_⟩⟩,tt⟩;exact ah (WT (enc:=fD) (d:=jL) (l:=c) (i:=i2) (x:=c.getD (k+i) jL) (by omega) (by rw [acr];rfl) q)};(try simp only []);first | omega | grind};(have a5:l.getD (i+k) jL=l.getD (i+k - 1) jL:=by have e:(!(c.getD (k+i) jL==c.getD ((IntKind.i64.wrap ((k:Int) - 1)).toNat+i) jL))=false:=(acY Bool.not (LV _ _)).trans m;rw [e3,e5,y,r1,r2]at e;simpa using e);refine sk (rg [] rfl ?_);refine ⟨(c,i2,k+1),?_,?_,?_⟩;{have em:=TP jL (l:=l) (k:=i+k) (by omega) a5;exact ⟨hc,by omega,by omega,by rw [<- adK,em];exact g,by rw [<- adK,em];exact f,by omega,λj w=>a j (by omega)⟩};{refine eX cX ⟨obs rfl,tt⟩};(try simp only []);first | omega | grind};(have u:i+k=l.length:=by simp at h9;omega);rw [u]at g f t;refine xt (sq (rgs [] rfl ?_ ?_));{simp [ay,under,rG,uP,capEq];omega};refine sq (rgs [] rfl ?_ ?_);{simp [ay,under,rG,uP,capEq];omega};refine rX ?_;refine aG hT [] (ts:=[(2,.own (.b 0) l.length 0 (dd jL l l.length).length none)]) trivial ⟨⟨rfl,_,rfl,ah ?_⟩,tt⟩ ⟨⟨λ_ _=>SI (enc:=fD) (d:=jL) (λ_=>dN _ _) rfl _,.inl ⟨_,rfl,_,_,rfl,aa4 _,abO _,abO _,λq r=>ah ?_⟩⟩,tt⟩ rfl rfl rfl;{rw [<- f];rfl};simp only [acW];exact YU jL (enc:=fD) (z:=(T 134).zero) g f (by omega) q r};(have p:l.getD i jL≠l.getD (i - 1) jL:=by have e:(l.getD i jL==l.getD (IntKind.i64.wrap ((i:Int) - 1)).toNat jL)=false:=(LV _ _).trans h6;rw [e1]at e;simpa using e);refine sk (rg [] rfl ?_);refine ⟨i+1,?_,?_,?_⟩;{refine ⟨by omega,o,λj h0 w=>?_⟩;rcases adf j i with h | h;{exact hn j h0 h};(obtain rfl:j=i:=by omega);exact p};{refine eX cX ⟨obs rfl,tt⟩};(try simp only []);first | omega | grind};refine xt (sq (rg [] rfl ?_));refine rX ?_;(have o:i=l.length:=by simp at h4;omega);subst o;have e:dd jL l l.length=l:=Ny jL hn;rw [e];exact aG hT [] (ts:=[(2,.own (.b 0) l.length 0 l.length none)]) trivial ⟨⟨rfl,_,rfl,ah rfl⟩,tt⟩ ⟨⟨λ_ _=>SI (enc:=fD) (d:=jL) (λ_=>dN _ _) rfl _,.inl ⟨_,rfl,_,_,rfl,aa4 _,abO _,abO _,λq r=>ah (rF (show q<l.length from r) _ _).symm⟩⟩,tt⟩ rfl rfl rfl
open Go.Proofs
def bt (k n:Int) (w:Bool):BT:=⟨_root_.Fin.ofNat 8 k.toNat,_root_.Fin.ofNat 8 n.toNat,w⟩
theorem ada {k n:Int} {w:Bool} (hk:0<=k/\k<8) (hn:0<=n/\n<8):(bt k n w).t=⟨k,n,w⟩:=by
 simp only [bt,BT.t,_root_.Fin.ofNat,MH.mk.injEq,and_true];refine ⟨?_,?_⟩ <;> omega
def tZ (l:List BT):List Ob:=[.cells ⟨195,1,λ_ => .own (.b 1) l.length 0 l.length none,0⟩,dA 134 fD jL l]
theorem Vw (k n:Int) (w:Bool):(AV.agg 134 3 λq=>bif Nat.beq q 2 then .bool w else bif Nat.beq q 1 then .int n else bif Nat.beq q 0 then .int k else [AV.int 0,AV.int 0,AV.bool false].getD q .bad)=sD ⟨k,n,w⟩:=bY (λq=>by match q with | 0 | 1 | 2 | q+3=>rfl)
theorem abu (l:List BT) (k n:Int) (w:Bool) (hl:l.length<=100) (hk:0<=k/\k<8) (hn:0<=n/\n<8):AC Tryz.prog T aI 219 [.int k,.int n,.bool w,.ptr (.b 0) 1 0 []] [.cells ⟨195,1,λ_ => .own (.b 1) l.length 0 l.length none,0⟩,dA 134 fD jL l] (.tup []) [.cells ⟨195,1,λ_ => .own (.b 1) (l++[bt k n w]).length 0 (l++[bt k n w]).length none,0⟩,dA 134 fD jL (l++[bt k n w])]:=by
 refine aX Tryz.func219 ?_;refine rgs [] rfl ?_ ?_
 ·have a:(T 134).bytes=24:=rfl;simp [ay,under,a];omega
 change Fin ..;refine aG hT [] (ts:=[]) (l:=[]) trivial trivial ⟨obs rfl (hg:=q0 (ah (by rw [bZ];rfl))),dM (dN _) rfl rfl (by rw [bZ]) rfl rfl (Ec (z:=(T 134).zero) rfl (by rw [fD,ada hk hn];exact Vw k n w) (λq c=>rfl)),tt⟩ rfl rfl rfl
def jR (l:List zu):List BT:=l.map λc=>bt 3 c.chan true
theorem EO {l:List zu} {k:Nat} (hk:k<l.length):jR (l.take k)++[bt 3 (l.getD k EP).chan true]=jR (l.take (k+1)):=by
 rw [adY,aaT hk,jR,jR,List.map_append];simp [hk]
def iD (p:aj) (s:bM) (g:Int):List BT:=[bt 5 g true] ++
 (if (aW p s g).op=50 then [bt 1 (aW p s g).b false]else if (aW p s g).op=54 then [bt 1 (aW p s g).a false]else if (aW p s g).op=51 then [bt 1 (aW p s g).a true]else
 if (aW p s g).op=52 then [bt 1 (aW p s g).b true]else if (aW p s g).op=53 then [bt 1 (aW p s g).b true]else if (aW p s g).op=55 then [bt 2 (aW p s g).a true]else if (aW p s g).op=56 then [bt 2 (aW p s g).a true]else
 if (aW p s g).op=57 then [bt 2 (aW p s g).b true]else if (aW p s g).op=58 then [bt 3 (aW p s g).a true]else if (aW p s g).op=60 then [bt 3 (aW p s g).a true]else if (aW p s g).op=66 then [bt 3 (aW p s g).a true]else
 if (aW p s g).op=59 then [bt 3 (aW p s g).b true]else if (aW p s g).op=61 then jR (bJ p s g).cases else
 if (aW p s g).op=62 then [bt 4 0 true]++(if s.count<6 then [bt 5 s.count true]else [])else
 if (aW p s g).op=63 then [bt 4 0 false]++(if jF s g (bD (goI s g) (aW p s g).a)then [bt 5 (bD (goI s g) (aW p s g).a) false]else [])else
 if (aW p s g).op=65 then [bt 6 0 true]else [])
def dK (p:aj) (s:bM) (g:Int):List BT:=dd jL (jm (iD p s g)) (jm (iD p s g)).length
theorem dX.rng {p:aj} {s:bM} {g:Int} (h:dX p s g):((aW p s g).op=50\/(aW p s g).op=52\/(aW p s g).op=53\/(aW p s g).op=57\/(aW p s g).op=59->0<=(aW p s g).b/\(aW p s g).b<8) /\
 ((aW p s g).op=54\/(aW p s g).op=51\/(aW p s g).op=55\/(aW p s g).op=56\/(aW p s g).op=58\/(aW p s g).op=60\/(aW p s g).op=66->0<=(aW p s g).a/\(aW p s g).a<8):=by
 have hp:=h.prog;have f:=hp.vars;have hl:=hp.locks;have hc:=hp.chans
 have d:=h.at
 have hi:(aW p s g).op≠66->Dt p (bP p (goI s g)) (aW p s g):=λe=>by rw [d.ins e];exact h.ins
 constructor
 ·intro e;have hi:=hi (by omega)
  rcases e with e | e | e | e | e
  ·have:=(hi.load e).2;unfold bg at this;omega
  ·have:=(hi.bump e).2.1;unfold bg at this;omega
  ·have:=(hi.cas e).2.1;unfold bg at this;omega
  ·have:=(hi.try_ e).2;omega
  ·have:=(hi.recv e).2.1;unfold bg at this;omega
 ·intro e;by_cases c:(aW p s g).op=66
  ·have:=d.send (.inr (.inr c));unfold bg at this;omega
  have hi:=hi c;rcases e with e | e | e | e | e | e | e
  ·have:=(hi.store (.inr e)).2;unfold bg at this;omega
  ·have:=(hi.store (.inl e)).2;unfold bg at this;omega
  ·have:=hi.lock (.inl e);omega
  ·have:=hi.lock (.inr e);omega
  ·have:=(hi.send e).1;unfold bg at this;omega
  ·have:=hi.close e;unfold bg at this;omega
  ·exact absurd e c
theorem NV {p:aj} {s:bM} {g:Int} (h:dX p s g):(iD p s g).length<=5:=by
 have f:(aW p s g).op=61->(jR (bJ p s g).cases).length<=4:=λe=>by rw [jR,adN];exact (h.sel e).2.len.2
 have one:∀ x:BT,[x].length<=4:=λx=>by simp
 have hb:∀ l:List BT,l.length<=4->([bt 5 g true]++l).length<=5:=λl h=>by simp;omega
 refine hb _ ?_;have d:∀ (c:Prop) [Decidable c] (a b:List BT),(c->a.length<=4)->b.length<=4->(if c then a else b).length<=4:=λc _ a b i j=>by by_cases h:c;rw [aaW h];exact i h;rw [MC h];exact j
 refine d _ _ _ (λ_=>one _) <| d _ _ _ (λ_=>one _) <| d _ _ _ (λ_=>one _) <| d _ _ _ (λ_=>one _) <| d _ _ _ (λ_=>one _) <| d _ _ _ (λ_=>one _) <| d _ _ _ (λ_=>one _) <| d _ _ _ (λ_=>one _) <| d _ _ _ (λ_=>one _) <| d _ _ _ (λ_=>one _) <| d _ _ _ (λ_=>one _) <| d _ _ _ (λ_=>one _) <|
  d _ _ _ f <| d _ _ _ (λ_=>?_) <| d _ _ _ (λ_=>?_) <| d _ _ _ (λ_=>one _) (by simp)
 ·split <;> simp
 split <;> simp
def abv (l:List BT):List Ob:=[.cells ⟨195,1,λ_ => .own (.s 99 0) l.length 0 l.length none,0⟩,dA 134 fD jL l]
theorem BP (l:List BT) (k n:Int) (w:Bool) (hl:l.length<=100) (hk:0<=k/\k<8) (hn:0<=n/\n<8):AC Tryz.prog T aI 219 [.int k,.int n,.bool w,.ptr (.b 0) 1 0 []] (List.map (gq (sig [.s 7 0,.s 99 0] 0)) (abv l)) (.tup []) (tZ (l++[bt k n w])):=by
 have e:List.map (gq (sig [.s 7 0,.s 99 0] 0)) (abv l)=tZ l:=by show [_,gq _ (dA 134 fD jL l)]=_;rw [kM (jy _)];rfl
 rw [e];exact abu l k n w hl hk hn
theorem Rx (l:List BT) (hl:l.length<4611686018427387904):AC Tryz.prog T aI 221 [.own (.b 0) l.length 0 l.length none,.clo 222 []] (List.map (gq (sig [.s 99 0] 0)) [dA 134 fD jL l]) (.tup []) [zM (jm l)]:=by
 have e:List.map (gq (sig [.s 99 0] 0)) [dA 134 fD jL l]=[zM l]:=by show [gq _ (dA 134 fD jL l)]=_;rw [kM (jy _)];rfl
 rw [e];exact VF l hl
def ddO (l:List BT):Ob := .cells ⟨134,l.length,λj=>bif Nat.blt j (dd jL l l.length).length then fD ((dd jL l l.length).getD j jL)else (T 134).zero,0⟩
theorem Md (l:List BT):AC Tryz.prog T aI 223 [.own (.b 0) l.length 0 l.length none] (List.map (gq (sig [.s 99 0] 0)) [dA 134 fD jL l]) (.own (.b 0) l.length 0 (dd jL l l.length).length none) [ddO l]:=by
 have e:List.map (gq (sig [.s 99 0] 0)) [dA 134 fD jL l]=[dA 134 fD jL l]:=by show [gq _ (dA 134 fD jL l)]=_;rw [kM (jy _)]
 rw [e];exact Pq l
theorem abW (ids:List Id) (l:List BT):okO ids (ddO l):=λi _=>by
 show fP ids (bif _ then _ else _)=true;exact SI (enc:=fD) (d:=jL) (λ_=>dN _ _) rfl _
theorem MV (p:aj) (s:bM) (g:Int) (h:dX p s g):AC Tryz.prog T aI 160 [ak p,encS s,.int g] [] (rowP 134 fD jL (dK p s g)) []:=by
 refine aX Tryz.func160 ?_;have h6:=h.pos;have e2:=h.prog.chans;have e3:=h.valid.2.1;have j:=h.rng;have d3:=h.at;have d:∀ l:List BT,jX [.s 7 0,.s 99 0] [.cells ⟨195,1,λ_ => .own (.s 99 0) l.length 0 l.length none,0⟩,dA 134 fD jL l]:=λl=>⟨λ_ _=>rfl,λ_ _=>rfl,tt⟩;have f:∀ l:List BT,jX (bs 2) (tZ l):=λl=>⟨λ_ _=>rfl,λ_ _=>rfl,tt⟩;have i:∀ k n:Int,∀ w:Bool,0<=k/\k<8->0<=n/\n<8->AC Tryz.prog T aI 219 [.int k,.int n,.bool w,.ptr (.b 0) 1 0 []] (List.map (gq (sig [.s 7 0,.s 99 0] 0)) (abv [bt 5 g true])) (.tup []) (tZ ([bt 5 g true]++[bt k n w])):=λk n w a b=>BP [bt 5 g true] k n w (by simp) a b;refine sg rfl (sq ?_);refine WP.ent (st':=aN [(3,.rp 26 (ak p)),(4,.rp 62 (encS s)),(2,.int g)] []) (em [(.s 3 0,1),(.s 4 0,1)] ⟨sF,sF,tt⟩ ⟨rq,rq,cq,tt⟩ trivial) ?_;refine rg [] rfl (sg rfl ?_);refine sq (wE [(2,.int g),(3,.rp 26 (ak p)),(4,.rp 62 (encS s)),(7,.ptr (.s 7 0) 1 0 []),(8,.clo 219 [.ptr (.s 7 0) 1 0 []])] [(.s 7 0,.cells ⟨195,1,λ_ => .own (.s 99 0) 0 0 0 none,0⟩),(.s 99 0,dA 134 fD jL [])] ⟨obs rfl (hg:=q0 gX),⟨λ_ _=>rfl,.inr ⟨rfl,134,_,rfl,by decide⟩⟩,tt⟩ ?_);refine rgs [⟨true,[.s 7 0,.s 99 0],.tup [],tZ [bt 5 g true]⟩] rfl ?_ ?_
 ·have c:=BP [] 5 g true (by simp) (by omega) (by omega);have z0:=d [];have z1:=f [bt 5 g true];exact au
 refine sq (wE [(2,.int g),(3,.rp 26 (ak p)),(4,.rp 62 (encS s)),(7,.ptr (.s 7 0) 1 0 []),(8,.clo 219 [.ptr (.s 7 0) 1 0 []])] [(.s 7 0,.cells ⟨195,1,λ_ => .own (.s 99 0) 1 0 1 none,0⟩),(.s 99 0,dA 134 fD jL [bt 5 g true])] ⟨obs rfl,dM (dN _) rfl rfl rfl rfl rfl (λq c=>jy _ _),tt⟩ ?_);refine rgs [CG.pure (aU (aW p s g))] rfl ?_ ?_
 ·have c:=TV p s g h;exact au
 refine WP.seqJ (α:=List BT) (λl=>aN [(7,.ptr (.s 7 0) 1 0 [])] [(.s 7 0,.cells ⟨195,1,λ_ => .own (.s 99 0) l.length 0 l.length none,0⟩),(.s 99 0,dA 134 fD jL l)]) (λl=>l=iD p s g) ?_ ?_
 ·refine sq (wQ [(.s 9 0,1)] [(2,.int g),(3,.rp 26 (ak p)),(4,.rp 62 (encS s)),(7,.ptr (.s 7 0) 1 0 []),(8,.clo 219 [.ptr (.s 7 0) 1 0 []]),(9,.rp 120 (aU (aW p s g)))] [(.s 7 0,.cells ⟨195,1,λ_ => .own (.s 99 0) 1 0 1 none,0⟩),(.s 99 0,dA 134 fD jL [bt 5 g true])] ⟨obs rfl,dM (dN _) rfl rfl rfl rfl rfl (λq c=>rfl),tt⟩ ?_);refine rg [] rfl (bk (sq (rg [] rfl ?_)));refine cd rfl (λh6=>?_) (λh6=>?_);{(have e:(aW p s g).op=50:=by simpa using h6);have hx:=j.1 (by omega);refine rgs [⟨true,[.s 7 0,.s 99 0],.tup [],tZ ([bt 5 g true]++[bt 1 (aW p s g).b false])⟩] rfl ?_ ?_;{have c:=i 1 (aW p s g).b false (by omega) hx;have z0:=d [bt 5 g true];have z1:=f ([bt 5 g true]++[bt 1 (aW p s g).b false]);exact au};refine ⟨[bt 5 g true]++[bt 1 (aW p s g).b false],?_,?_⟩;{simp [iD,e]};refine eX cX ⟨obs rfl,dM (dN _) rfl rfl rfl rfl rfl (λq c=>jy _ _),tt⟩};(have b6:(aW p s g).op≠50:=by simpa using h6);refine sg rfl (cd rfl (λh8=>?_) (λh8=>?_));{(have e:(aW p s g).op=54:=by simpa using h8);have hx:=j.2 (by omega);refine rgs [⟨true,[.s 7 0,.s 99 0],.tup [],tZ ([bt 5 g true]++[bt 1 (aW p s g).a false])⟩] rfl ?_ ?_;{have c:=i 1 (aW p s g).a false (by omega) hx;have z0:=d [bt 5 g true];have z1:=f ([bt 5 g true]++[bt 1 (aW p s g).a false]);exact au};refine ⟨[bt 5 g true]++[bt 1 (aW p s g).a false],?_,?_⟩;{simp [iD,e]};refine eX cX ⟨obs rfl,dM (dN _) rfl rfl rfl rfl rfl (λq c=>jy _ _),tt⟩};(have c0:(aW p s g).op≠54:=by simpa using h8);refine sg rfl (cd rfl (λx=>?_) (λx=>?_));{(have e:(aW p s g).op=51:=by simpa using x);have hx:=j.2 (by omega);refine rgs [⟨true,[.s 7 0,.s 99 0],.tup [],tZ ([bt 5 g true]++[bt 1 (aW p s g).a true])⟩] rfl ?_ ?_;{have c:=i 1 (aW p s g).a true (by omega) hx;have z0:=d [bt 5 g true];have z1:=f ([bt 5 g true]++[bt 1 (aW p s g).a true]);exact au};refine ⟨[bt 5 g true]++[bt 1 (aW p s g).a true],?_,?_⟩;{simp [iD,e]};refine eX cX ⟨obs rfl,dM (dN _) rfl rfl rfl rfl rfl (λq c=>jy _ _),tt⟩};(have b7:(aW p s g).op≠51:=by simpa using x);refine sq (sq (rg [] rfl ?_));refine cd rfl (λm=>?_) (λm=>?_);{(have e:(aW p s g).op=52:=by simpa using m);have hx:=j.1 (by omega);refine sk (cd rfl (λm=>?_) (λm=>?_));{refine rgs [⟨true,[.s 7 0,.s 99 0],.tup [],tZ ([bt 5 g true]++[bt 1 (aW p s g).b true])⟩] rfl ?_ ?_;{have c:=i 1 (aW p s g).b true (by omega) hx;have z0:=d [bt 5 g true];have z1:=f ([bt 5 g true]++[bt 1 (aW p s g).b true]);exact au};refine ⟨[bt 5 g true]++[bt 1 (aW p s g).b true],?_,?_⟩;{simp [iD,e]};refine eX cX ⟨obs rfl,dM (dN _) rfl rfl rfl rfl rfl (λq c=>jy _ _),tt⟩};simp_all};(have b8:(aW p s g).op≠52:=by simpa using m);refine rg [] rfl (cd rfl (λy=>?_) (λy=>?_));{(have e:(aW p s g).op=53:=by simpa using y);have hx:=j.1 (by omega);refine rgs [⟨true,[.s 7 0,.s 99 0],.tup [],tZ ([bt 5 g true]++[bt 1 (aW p s g).b true])⟩] rfl ?_ ?_;{have c:=i 1 (aW p s g).b true (by omega) hx;have z0:=d [bt 5 g true];have z1:=f ([bt 5 g true]++[bt 1 (aW p s g).b true]);exact au};refine ⟨[bt 5 g true]++[bt 1 (aW p s g).b true],?_,?_⟩;{simp [iD,e]};refine eX cX ⟨obs rfl,dM (dN _) rfl rfl rfl rfl rfl (λq c=>jy _ _),tt⟩};(have b9:(aW p s g).op≠53:=by simpa using y);refine sq (sq (rg [] rfl ?_));refine cd rfl (λo=>?_) (λo=>?_);{(have e:(aW p s g).op=55:=by simpa using o);have hx:=j.2 (by omega);refine sk (cd rfl (λo=>?_) (λo=>?_));{refine rgs [⟨true,[.s 7 0,.s 99 0],.tup [],tZ ([bt 5 g true]++[bt 2 (aW p s g).a true])⟩] rfl ?_ ?_;{have c:=i 2 (aW p s g).a true (by omega) hx;have z0:=d [bt 5 g true];have z1:=f ([bt 5 g true]++[bt 2 (aW p s g).a true]);exact au};refine ⟨[bt 5 g true]++[bt 2 (aW p s g).a true],?_,?_⟩;{simp [iD,e]};refine eX cX ⟨obs rfl,dM (dN _) rfl rfl rfl rfl rfl (λq c=>jy _ _),tt⟩};simp_all};(have c1:(aW p s g).op≠55:=by simpa using o);refine rg [] rfl (cd rfl (λz=>?_) (λz=>?_));{(have e:(aW p s g).op=56:=by simpa using z);have hx:=j.2 (by omega);refine rgs [⟨true,[.s 7 0,.s 99 0],.tup [],tZ ([bt 5 g true]++[bt 2 (aW p s g).a true])⟩] rfl ?_ ?_;{have c:=i 2 (aW p s g).a true (by omega) hx;have z0:=d [bt 5 g true];have z1:=f ([bt 5 g true]++[bt 2 (aW p s g).a true]);exact au};refine ⟨[bt 5 g true]++[bt 2 (aW p s g).a true],?_,?_⟩;{simp [iD,e]};refine eX cX ⟨obs rfl,dM (dN _) rfl rfl rfl rfl rfl (λq c=>jy _ _),tt⟩};(have c2:(aW p s g).op≠56:=by simpa using z);refine sg rfl (cd rfl (λa0=>?_) (λa0=>?_));{(have e:(aW p s g).op=57:=by simpa using a0);have hx:=j.1 (by omega);refine rgs [⟨true,[.s 7 0,.s 99 0],.tup [],tZ ([bt 5 g true]++[bt 2 (aW p s g).b true])⟩] rfl ?_ ?_;{have c:=i 2 (aW p s g).b true (by omega) hx;have z0:=d [bt 5 g true];have z1:=f ([bt 5 g true]++[bt 2 (aW p s g).b true]);exact au};refine ⟨[bt 5 g true]++[bt 2 (aW p s g).b true],?_,?_⟩;{simp [iD,e]};refine eX cX ⟨obs rfl,dM (dN _) rfl rfl rfl rfl rfl (λq c=>jy _ _),tt⟩};(have c3:(aW p s g).op≠57:=by simpa using a0);refine sq (sq (rg [] rfl ?_));refine cd rfl (λr=>?_) (λr=>?_);{(have e:(aW p s g).op=58:=by simpa using r);have hx:=j.2 (by omega);refine sk (cd rfl (λr=>?_) (λr=>?_));{refine rgs [⟨true,[.s 7 0,.s 99 0],.tup [],tZ ([bt 5 g true]++[bt 3 (aW p s g).a true])⟩] rfl ?_ ?_;{have c:=i 3 (aW p s g).a true (by omega) hx;have z0:=d [bt 5 g true];have z1:=f ([bt 5 g true]++[bt 3 (aW p s g).a true]);exact au};refine ⟨[bt 5 g true]++[bt 3 (aW p s g).a true],?_,?_⟩;{simp [iD,e]};refine eX cX ⟨obs rfl,dM (dN _) rfl rfl rfl rfl rfl (λq c=>jy _ _),tt⟩};simp_all};(have c4:(aW p s g).op≠58:=by simpa using r);refine sg rfl (cd rfl (λt=>?_) (λt=>?_));{(have e:(aW p s g).op=60:=by simpa using t);have hx:=j.2 (by omega);refine sk (cd rfl (λt=>?_) (λt=>?_));{refine rgs [⟨true,[.s 7 0,.s 99 0],.tup [],tZ ([bt 5 g true]++[bt 3 (aW p s g).a true])⟩] rfl ?_ ?_;{have c:=i 3 (aW p s g).a true (by omega) hx;have z0:=d [bt 5 g true];have z1:=f ([bt 5 g true]++[bt 3 (aW p s g).a true]);exact au};refine ⟨[bt 5 g true]++[bt 3 (aW p s g).a true],?_,?_⟩;{simp [iD,e]};refine eX cX ⟨obs rfl,dM (dN _) rfl rfl rfl rfl rfl (λq c=>jy _ _),tt⟩};simp_all};(have c6:(aW p s g).op≠60:=by simpa using t);refine rg [] rfl (cd rfl (λa1=>?_) (λa1=>?_));{(have e:(aW p s g).op=66:=by simpa using a1);have hx:=j.2 (by omega);refine rgs [⟨true,[.s 7 0,.s 99 0],.tup [],tZ ([bt 5 g true]++[bt 3 (aW p s g).a true])⟩] rfl ?_ ?_;{have c:=i 3 (aW p s g).a true (by omega) hx;have z0:=d [bt 5 g true];have z1:=f ([bt 5 g true]++[bt 3 (aW p s g).a true]);exact au};refine ⟨[bt 5 g true]++[bt 3 (aW p s g).a true],?_,?_⟩;{simp [iD,e]};refine eX cX ⟨obs rfl,dM (dN _) rfl rfl rfl rfl rfl (λq c=>jy _ _),tt⟩};(have d1:(aW p s g).op≠66:=by simpa using a1);refine sg rfl (cd rfl (λa2=>?_) (λa2=>?_));{(have e:(aW p s g).op=59:=by simpa using a2);have hx:=j.1 (by omega);refine rgs [⟨true,[.s 7 0,.s 99 0],.tup [],tZ ([bt 5 g true]++[bt 3 (aW p s g).b true])⟩] rfl ?_ ?_;{have c:=i 3 (aW p s g).b true (by omega) hx;have z0:=d [bt 5 g true];have z1:=f ([bt 5 g true]++[bt 3 (aW p s g).b true]);exact au};refine ⟨[bt 5 g true]++[bt 3 (aW p s g).b true],?_,?_⟩;{simp [iD,e]};refine eX cX ⟨obs rfl,dM (dN _) rfl rfl rfl rfl rfl (λq c=>jy _ _),tt⟩};(have c5:(aW p s g).op≠59:=by simpa using a2);refine sg rfl (cd rfl (λa3=>?_) (λa3=>?_));{(have e:(aW p s g).op=61:=by simpa using a3);have b0:=h.sel e;have d5:=b0.1;have d4:=h.fit.2.1;have b4:=b0.2.len;refine sq (drs [] rfl ?_ ?_);{simp only [bg,bP,goI]at d5 d4;simp [-List.getD_eq_getElem?_getD,ay,under];omega};refine bk (WP.loop (α:=Nat) (λk=>aN [(7,.ptr (.s 7 0) 1 0 []),(8,.clo 219 [.ptr (.s 7 0) 1 0 []]),(91,rowP 215 qo EP (bJ p s g).cases),(92,.int (bJ p s g).cases.length),(93,.int k)] [(.s 7 0,.cells ⟨195,1,λ_ => .own (.s 99 0) ([bt 5 g true]++jR ((bJ p s g).cases.take k)).length 0 ([bt 5 g true]++jR ((bJ p s g).cases.take k)).length none,0⟩),(.s 99 0,dA 134 fD jL ([bt 5 g true]++jR ((bJ p s g).cases.take k)))]) (λk=>k<=(bJ p s g).cases.length) (λk=>(bJ p s g).cases.length - k) ?_ ?_);{refine ⟨0,?_,?_⟩;{exact abO _};refine eX cX ⟨obs rfl,dM (dN _) rfl rfl rfl rfl rfl (λq c=>rfl),tt⟩};rintro k hk;refine sg rfl (sq ?_);refine cd rfl (λa4=>?_) (λa4=>?_);{(have u:k<(bJ p s g).cases.length:=by simp [-List.getD_eq_getElem?_getD]at a4;omega);have d6:=(b0.2.case (aA (bJ p s g) k) (by unfold aA;rw [aaV,aaT u];exact acn _)).chan;(have b1:([bt 5 g true]++jR ((bJ p s g).cases.take k))++[bt 3 (aA (bJ p s g) k).chan true]=[bt 5 g true]++jR ((bJ p s g).cases.take (k+1)):=by rw [adu,<- EO u]);(have e0:([bt 5 g true]++jR ((bJ p s g).cases.take k)).length<=100:=by simp [jR];omega);refine sk (sq (bk (sq (rgs [] rfl ?_ ?_))));{simp [-List.getD_eq_getElem?_getD,ay,under];omega};refine rgs [⟨true,[.s 7 0,.s 99 0],.tup [],tZ (([bt 5 g true]++jR ((bJ p s g).cases.take k))++[bt 3 (aA (bJ p s g) k).chan true])⟩] rfl ?_ ?_;{unfold bg at d6;have c:=BP ([bt 5 g true]++jR ((bJ p s g).cases.take k)) 3 (aA (bJ p s g) k).chan true e0 (by omega) (by omega);have b2:=d ([bt 5 g true]++jR ((bJ p s g).cases.take k));have b3:=f (([bt 5 g true]++jR ((bJ p s g).cases.take k))++[bt 3 (aA (bJ p s g) k).chan true]);exact au};refine rg [] rfl ⟨k+1,?_,?_,?_⟩;{exact u};{refine eX cX ⟨obs rfl (hg:=q0 (ah (by rw [<- b1] <;> rfl))),dM (dN _) rfl rfl (by rw [<- b1] <;> rfl) rfl rfl (λq c=>by rw [<- b1];exact jy _ _),tt⟩};(try simp only []);first | omega | grind};(have u:k=(bJ p s g).cases.length:=by simp [-List.getD_eq_getElem?_getD]at a4;omega);refine xt ⟨[bt 5 g true]++jR ((bJ p s g).cases.take k),?_,?_⟩;{rw [u,adJ];simp [iD,e]};refine eX cX ⟨obs rfl,dM (dN _) rfl rfl rfl rfl rfl (λq c=>rfl),tt⟩};(have c7:(aW p s g).op≠61:=by simpa using a3);refine sg rfl (cd rfl (λa5=>?_) (λa5=>?_));{(have e:(aW p s g).op=62:=by simpa using a5);refine sq (rgs [⟨true,[.s 7 0,.s 99 0],.tup [],tZ ([bt 5 g true]++[bt 4 0 true])⟩] rfl ?_ ?_);{have c:=i 4 0 true (by omega) (by omega);have z0:=d [bt 5 g true];have z1:=f ([bt 5 g true]++[bt 4 0 true]);exact au};refine sg rfl (cd rfl (λa6=>?_) (λa6=>?_));{(have a9:s.count<6:=by simpa using a6);refine wE [(4,.rp 62 (encS s)),(7,.ptr (.s 7 0) 1 0 []),(8,.clo 219 [.ptr (.s 7 0) 1 0 []])] [(.s 7 0,.cells ⟨195,1,λ_ => .own (.s 99 0) 2 0 2 none,0⟩),(.s 99 0,dA 134 fD jL ([bt 5 g true]++[bt 4 0 true]))] ⟨obs rfl,dM (dN _) rfl rfl rfl rfl rfl (λq c=>jy _ _),tt⟩ (rgs [⟨true,[.s 7 0,.s 99 0],.tup [],tZ (([bt 5 g true]++[bt 4 0 true])++[bt 5 s.count true])⟩] rfl ?_ ?_);{have c:=BP ([bt 5 g true]++[bt 4 0 true]) 5 s.count true (by simp) (by omega) (by omega);have b2:=d ([bt 5 g true]++[bt 4 0 true]);have b3:=f (([bt 5 g true]++[bt 4 0 true])++[bt 5 s.count true]);exact au};refine ⟨([bt 5 g true]++[bt 4 0 true])++[bt 5 s.count true],?_,?_⟩;{simp [iD,e,a9]};refine eX cX ⟨obs rfl,dM (dN _) rfl rfl rfl rfl rfl (λq c=>jy _ _),tt⟩};(have a9:¬ s.count<6:=by simpa using a6);refine sk ⟨[bt 5 g true]++[bt 4 0 true],?_,?_⟩;{simp [iD,e,a9]};refine eX cX ⟨obs rfl,dM (dN _) rfl rfl rfl rfl rfl (λq c=>jy _ _),tt⟩};(have c8:(aW p s g).op≠62:=by simpa using a5);refine sg rfl (cd rfl (λa7=>?_) (λa7=>?_));{(have e:(aW p s g).op=63:=by simpa using a7);have e4:=d3.join (.inl e);refine sq (rgs [⟨true,[.s 7 0,.s 99 0],.tup [],tZ ([bt 5 g true]++[bt 4 0 false])⟩] rfl ?_ ?_);{have c:=i 4 0 false (by omega) (by omega);have z0:=d [bt 5 g true];have z1:=f ([bt 5 g true]++[bt 4 0 false]);exact au};refine sq (drs [] rfl ?_ ?_);{simp [-List.getD_eq_getElem?_getD,ay,under];omega};refine sq (rgs [CG.pure (.bool (jF s g (bD (goI s g) (aW p s g).a)))] rfl ?_ ?_);{have c:=F8 s g (bD (goI s g) (aW p s g).a);exact au};refine cd rfl (λv=>?_) (λv=>?_);{(have e6:0<=bD (goI s g) (aW p s g).a/\bD (goI s g) (aW p s g).a<8:=by simp only [jF,ab8]at v;omega);refine wE [(12,.int (bD (goI s g) (aW p s g).a)),(7,.ptr (.s 7 0) 1 0 []),(8,.clo 219 [.ptr (.s 7 0) 1 0 []])] [(.s 7 0,.cells ⟨195,1,λ_ => .own (.s 99 0) 2 0 2 none,0⟩),(.s 99 0,dA 134 fD jL ([bt 5 g true]++[bt 4 0 false]))] ⟨obs rfl,dM (dN _) rfl rfl rfl rfl rfl (λq c=>jy _ _),tt⟩ (rgs [⟨true,[.s 7 0,.s 99 0],.tup [],tZ (([bt 5 g true]++[bt 4 0 false])++[bt 5 (bD (goI s g) (aW p s g).a) false])⟩] rfl ?_ ?_);{have ew:IntKind.i64.wrap (bD (goI s g) (aW p s g).a)=bD (goI s g) (aW p s g).a:=bK (by omega) (by omega);have c:=BP ([bt 5 g true]++[bt 4 0 false]) 5 (bD (goI s g) (aW p s g).a) false (by simp) (by omega) (by omega);have b2:=d ([bt 5 g true]++[bt 4 0 false]);have b3:=f (([bt 5 g true]++[bt 4 0 false])++[bt 5 (bD (goI s g) (aW p s g).a) false]);simp only [ew];exact au};refine ⟨([bt 5 g true]++[bt 4 0 false])++[bt 5 (bD (goI s g) (aW p s g).a) false],?_,?_⟩;{simp [-List.getD_eq_getElem?_getD,iD,e,v]};refine eX cX ⟨obs rfl,dM (dN _) rfl rfl rfl rfl rfl (λq c=>jy _ _),tt⟩};refine sk ⟨[bt 5 g true]++[bt 4 0 false],?_,?_⟩;{simp [-List.getD_eq_getElem?_getD,iD,e,v]};refine eX cX ⟨obs rfl,dM (dN _) rfl rfl rfl rfl rfl (λq c=>jy _ _),tt⟩};(have c9:(aW p s g).op≠63:=by simpa using a7);refine sg rfl (cd rfl (λa8=>?_) (λa8=>?_));{(have e:(aW p s g).op=65:=by simpa using a8);refine rgs [⟨true,[.s 7 0,.s 99 0],.tup [],tZ ([bt 5 g true]++[bt 6 0 true])⟩] rfl ?_ ?_;{have c:=i 6 0 true (by omega) (by omega);have z0:=d [bt 5 g true];have z1:=f ([bt 5 g true]++[bt 6 0 true]);exact au};refine ⟨[bt 5 g true]++[bt 6 0 true],?_,?_⟩;{simp [iD,e]};refine eX cX ⟨obs rfl,dM (dN _) rfl rfl rfl rfl rfl (λq c=>jy _ _),tt⟩};(have d0:(aW p s g).op≠65:=by simpa using a8);refine sk ⟨[bt 5 g true],?_,?_⟩;{simp [iD,b6,c0,b7,b8,b9,c1,c2,c3,c4,c6,d1,c5,c7,c8,c9,d0]};refine eX cX ⟨obs rfl,dM (dN _) rfl rfl rfl rfl rfl (λq c=>rfl),tt⟩
 rintro l hl;refine sq ?_;(have e5:l.length<=5:=by rw [hl];exact NV h);refine rgs [⟨true,[.s 99 0],.tup [],[zM (jm l)]⟩] rfl ?_ ?_;{have c:=Rx l (by omega);have d8:jX [.s 99 0] [dA 134 fD jL l]:=⟨λ_ _=>rfl,tt⟩;have d9:jX (bs 1) [zM (jm l)]:=⟨λ_ _=>rfl,tt⟩;exact au};refine sq ?_;have b4:(jm l).length=l.length:=tN MZ l;refine wE [(7,.ptr (.s 7 0) 1 0 [])] [(.s 7 0,.cells ⟨195,1,λ_ => .own (.s 99 0) (jm l).length 0 (jm l).length none,0⟩),(.s 99 0,dA 134 fD jL (jm l))] ⟨obs rfl (hg:=q0 (ah (by rw [b4]))),dM (dN _) rfl rfl rfl rfl rfl (λq c=>jy _ _),tt⟩ (rgs [⟨true,[.s 99 0],.own (.b 0) (jm l).length 0 (dd jL (jm l) (jm l).length).length none,[ddO (jm l)]⟩] rfl ?_ ?_);{have c:=Md (jm l);have d8:jX [.s 99 0] [dA 134 fD jL (jm l)]:=⟨λ_ _=>rfl,tt⟩;have d9:jX (bs 1) [ddO (jm l)]:=⟨abW _ _,tt⟩;exact au};refine rX ?_;have d7:=L8 jL (jm l) (jm l).length;refine aG hT [(.s 99 0,(jm l).length)] (ts:=[(6,rowP 134 fD jL (dK p s g))]) (l:=[rowP 134 fD jL (dK p s g)]) ⟨⟨_,rfl,aa4 _⟩,tt⟩ ⟨⟨rfl,_,rfl,?_⟩,tt⟩ trivial rfl rfl rfl;rw [dK,<- hl];refine gK rfl rfl rfl (λh=>by cases h) (by simp [dO,aT];exact d7) (λq c=>?_);show fJ (ren _ (bif Nat.blt (0+q) _ then _ else _))=true/\vk (ren _ (bif Nat.blt (0+q) _ then _ else _)) _;rw [acW,rF c,jy];exact ⟨rfl,vk.refl _⟩
structure aQ where
 go:Int
 alt:Int
 deriving DecidableEq
def dF:aQ:=⟨0,0⟩
def aV (x:aQ):AV:=bI 122 [.int x.go,.int x.alt]
theorem nN (ids:List Id) (x:aQ):fP ids (aV x)=true:=rfl
def lQ (p:aj) (s:bM):Int:=if eG p=false then 3 else if ¬ dD p s then 4 else 0
theorem IE (p:aj) (s:bM) (e:mZ s):AC Tryz.prog T aI 114 [ak p,encS s] [] (.int (lQ p s)) []:=by
 refine aX Tryz.func114 ?_;refine sg rfl (sq (sq ?_));refine WP.ent (st':=aN [(2,.rp 26 (ak p)),(3,.rp 62 (encS s))] []) (em [(.s 2 0,1),(.s 3 0,1)] ⟨sF,sF,tt⟩ ⟨rq,rq,tt⟩ trivial) ?_;refine rgs [CG.pure (zl p)] rfl ?_ ?_
 ·have f:=DR p;exact au
 refine sg rfl (cd rfl (λa=>?_) (λa=>?_))
 ·(have b:eG p=false:=by simp at a;simp [eG];exact a);exact sg rfl (WP.ret (bn hT (by rfl) (by rw [lQ,aaW b])))
 (have b:¬ eG p=false:=by simp at a;simp [eG];exact a);refine sk (sq (sq (rgs [CG.pure (.bool (decide (dD p s)))] rfl ?_ ?_)));{have f:=MS p s e;exact au};refine cd rfl (λc=>?_) (λc=>?_);{(have d:¬ dD p s:=by simpa using c);exact sg rfl (WP.ret (bn hT (by rfl) (by rw [lQ,MC b,aaW d])))};(have d:¬ ¬ dD p s:=by simpa using c);refine sk (sq (rg [] rfl ?_));exact WP.ret (bn hT (by rfl) (by rw [lQ,MC b,MC d]))
theorem aaG {p:aj} {s:bM} (h:lQ p s=0):dD p s:=by
 unfold lQ at h;split at h
 ·cases h
 split at h;{cases h};rename_i b a;simpa using a
def uV (p:aj) (s:bM) (g:Int):List aQ:=(iK p s g).map λa=>⟨g,a⟩
def aO (p:aj) (s:bM):List aQ:=if lQ p s=0 then (iw s).flatMap (uV p s)else []
theorem zA {p:aj} {s:bM} (c:mZ s) (d:dD p s) {g:Int} (h:g∈iw s):dX p s g:=by
 obtain ⟨j,e,a,b⟩:=qU.1 h;exact ⟨c,d,by rw [goI,a];exact b,by omega⟩
def qc (p:aj) (s:bM) (i j:Nat):List aQ:=((iw s).take i).flatMap (uV p s)++(uV p s ((iw s).getD i 0)).take j
theorem LP {α β:Type} {f:α->List β} {n:Nat}:∀ {l:List α},(∀ x∈l,(f x).length<=n)->(l.flatMap f).length<=n*l.length
 | [],_=>by simp
 | x::r,h=>by have b:=h x (by simp);have c:=LP (l:=r) (λy a=>h y (by simp [a]));rw [aeF,adp,adQ,Nat.mul_succ];omega
theorem UJ {p:aj} {s:bM} (a:mZ s) (b:dD p s) (i j:Nat):(qc p s i j).length<=30+j:=by
 have c:(((iw s).take i).flatMap (uV p s)).length<=5*((iw s).take i).length:=LP λx hx=>by rw [uV,adN];exact Dn (zA a b (List.mem_of_mem_take hx))
 have d:(iw s).length<=6:=uh s 6;have e:((iw s).take i).length<=(iw s).length:=by rw [adh];omega
 rw [qc,adp,adh];omega
theorem ZO {p:aj} {s:bM} {x:Int} {j:Nat} (a:j<(iK p s x).length):(uV p s x)[j]? = some ⟨x,(iK p s x).getD j 0⟩:=by simp [uV,a]
theorem Qs {p:aj} {s:bM} {i j:Nat} (a:j<(iK p s ((iw s).getD i 0)).length):qc p s i j++[⟨(iw s).getD i 0,(iK p s ((iw s).getD i 0)).getD j 0⟩]=qc p s i (j+1):=by
 rw [qc,qc,adu,adY (l:=uV p s ((iw s).getD i 0)),ZO a];rfl
theorem Qu {p:aj} {s:bM} {i:Nat} (hi:i<(iw s).length):qc p s i (iK p s ((iw s).getD i 0)).length=qc p s (i+1) 0:=by
 rw [qc,qc,List.take_of_length_le (l:=uV p s ((iw s).getD i 0)) (by simp [uV]),adY (l:=iw s),aaT hi,adS];simp [hi]
abbrev cu (l:List aQ):AV:=rowP 122 aV dF l
theorem DK (p:aj) (s:bM) (t:mZ s):AC Tryz.prog T aI 69 [ak p,encS s] [] (.tup [cu (aO p s),.int (lQ p s)]) []:=by
 refine aX Tryz.func69 ?_;refine sg rfl (sq (sq ?_));refine WP.ent (st':=aN [(2,.rp 26 (ak p)),(3,.rp 62 (encS s))] []) (em [(.s 2 0,1),(.s 3 0,1)] ⟨sF,sF,tt⟩ ⟨rq,rq,tt⟩ trivial) ?_;refine rgs [CG.pure (.int (lQ p s))] rfl ?_ ?_
 ·have f:=IE p s t;exact au
 refine sg rfl (cd rfl (λm=>?_) (λm=>?_))
 ·(have g:lQ p s≠0:=by simpa using m);refine sg rfl (rX ?_);refine aG hT [] (ts:=[(4,cu (aO p s)),(5,.int (lQ p s))]) (l:=[cu (aO p s),.int (lQ p s)]) trivial ⟨⟨rfl,_,rfl,?_⟩,cq,tt⟩ trivial rfl rfl rfl;rw [aO,MC g];exact dG (by decide)
 (have g:lQ p s=0:=by simpa using m);have u:=aaG g;refine sk (sq (rg [] rfl ?_));refine sq (sq (rgs [CG.pure (ints false (iw s))] rfl ?_ ?_));{have f:=Z9 s;exact au};refine bk (WP.loop (α:=Nat) (λi=>aN [(2,.rp 26 (ak p)),(3,.rp 62 (encS s)),(7,.own (.s 39 0) (qc p s i 0).length 0 (qc p s i 0).length none),(19,ints false (iw s)),(20,.int (iw s).length),(21,.int i)] [(.s 39 0,dA 122 aV dF (qc p s i 0))]) (λi=>i<=(iw s).length) (λi=>(iw s).length - i) ?_ ?_);{refine ⟨0,?_,?_⟩;{exact abO _};refine eX ⟨cq,cq,⟨rfl,_,rfl,gX⟩,cq,cq,cq,tt⟩ ⟨⟨λ_ _=>rfl,.inr ⟨rfl,122,_,rfl,by decide⟩⟩,tt⟩};rintro i hi;refine sg rfl (sq ?_);refine cd rfl (λn=>?_) (λn=>?_);{(have a:i<(iw s).length:=by simp [-List.getD_eq_getElem?_getD]at n;omega);have k:dX p s ((iw s).getD i 0):=zA t u (by rw [aaV,aaT a];exact acn _);have w:(iw s).length<=6:=uh s 6;refine sk (sq (bk (sq (rgs [] rfl ?_ ?_))));{simp [-List.getD_eq_getElem?_getD,ay,under];omega};refine sq (rgs [CG.pure (ints false (iK p s ((iw s).getD i 0)))] rfl ?_ ?_);{have f:=TY p s _ k;exact au};refine bk (WP.loop (α:=Nat) (λj=>aN [(2,.rp 26 (ak p)),(3,.rp 62 (encS s)),(7,.own (.s 39 0) (qc p s i j).length 0 (qc p s i j).length none),(9,.int ((iw s).getD i 0)),(19,ints false (iw s)),(20,.int (iw s).length),(21,.int i),(28,ints false (iK p s ((iw s).getD i 0))),(29,.int (iK p s ((iw s).getD i 0)).length),(30,.int j)] [(.s 39 0,dA 122 aV dF (qc p s i j))]) (λj=>j<=(iK p s ((iw s).getD i 0)).length) (λj=>(iK p s ((iw s).getD i 0)).length - j) ?_ ?_);{refine ⟨0,?_,?_⟩;{exact abO _};refine eX cX ⟨dM (nN _) rfl rfl rfl rfl rfl (λq f=>rfl),tt⟩};rintro j y;refine sg rfl (sq ?_);refine cd rfl (λo=>?_) (λo=>?_);{(have b:j<(iK p s ((iw s).getD i 0)).length:=by simp [-List.getD_eq_getElem?_getD]at o;omega);have v:=Dn k;have x:=UJ t u i j;refine sk (sq (bk (sq (rgs [] rfl ?_ ?_))));{simp [-List.getD_eq_getElem?_getD,ay,under];omega};refine rgs [] rfl ?_ ?_;{have r:(T 122).bytes=16:=rfl;simp [ay,under,r];omega};refine rg [] rfl ?_;have d:=Qs b;refine ⟨j+1,?_,?_,?_⟩;{exact b};{refine eX ⟨cq,cq,⟨rfl,_,rfl,ah (by rw [<- d,bZ])⟩,cq,cq,cq,cq,cq,cq,cq,tt⟩ ⟨dM (nN _) rfl rfl (by rw [<- d,bZ]) rfl rfl (by rw [<- d];exact Ec (z:=(T 122).zero) rfl (bY (λq=>by match q with | 0 | 1 | q+2=>rfl)) (λq f=>rfl)),tt⟩};(try simp only []);first | omega | grind};(have b:j=(iK p s ((iw s).getD i 0)).length:=by simp [-List.getD_eq_getElem?_getD]at o;omega);subst b;refine xt (rg [] rfl ?_);have c:=Qu (p:=p) a;refine ⟨i+1,?_,?_,?_⟩;{exact a};{refine eX ⟨cq,cq,⟨rfl,_,rfl,ah (by rw [c])⟩,cq,cq,cq,tt⟩ ⟨dM (nN _) rfl rfl (by rw [c]) rfl rfl (λq f=>by rw [<- c]),tt⟩};(try simp only []);first | omega | grind};(have a:i=(iw s).length:=by simp [-List.getD_eq_getElem?_getD]at n;omega);(have e:qc p s i 0=aO p s:=by rw [qc,a,adJ,List.take_zero,adC,aO,aaW g]);refine xt (sq (rg [] rfl ?_));refine rX ?_;refine aG hT [(.s 39 0,(qc p s i 0).length)] (ts:=[(4,cu (aO p s)),(5,.int (lQ p s))]) (l:=[cu (aO p s),.int (lQ p s)]) ⟨⟨_,rfl,aa4 _⟩,tt⟩ ⟨⟨rfl,_,rfl,?_⟩,⟨rfl,_,rfl,ah (by rw [g])⟩,tt⟩ trivial rfl rfl rfl;rw [<- e];exact gK rfl rfl rfl (λh=>by cases h) (by simp [dO,aT]) (λq f=>by rw [acW];exact ⟨rfl,vk.refl _⟩)
structure PM where
 s:bM
 g:Int
 fuel:Int
 val:Int
 over:Bool
def jc (p:aj) (m:PM):AV:=bI 263 [ak p,encS m.s,.int m.g,.int m.fuel,.int m.val,.bool m.over]
abbrev mO (p:aj) (m:PM):Ob := .cells ⟨263,1,λ_=>jc p m,0⟩
theorem vX (a:Id->Id) (p:aj):ren a (ak p)=ak p:=bY (λq=>by match q with | 0 | 1 | 2 | 3 | q+4=>rfl)
theorem abo (a:Id->Id) (g:iP):ren a (bW g)=bW g:=bY (λq=>by match q with | 0 | 1 | 2 | 3 | 4 | q+5=>rfl)
theorem abp (a:Id->Id) (c:iO):ren a (dY c)=dY c:=bY (λq=>by match q with | 0 | 1 | 2 | 3 | 4 | 5 | q+6=>rfl)
theorem vY (a:Id->Id) (s:bM):ren a (encS s)=encS s:=bY (λq=>by
 match q with
 | 0 | 1 | 4 | q+5=>rfl
 | 2=>exact bY λi=>abp a _
 | 3=>exact bY λi=>abo a _)
theorem iF (a:Id->Id) (p:aj) (m:PM):ren a (jc p m)=jc p m:=bY (λq=>by
 match q with
 | 0=>exact vX a p
 | 1=>exact vY a _
 | 2 | 3 | 4 | 5 | q+6=>rfl)
theorem mY (a:Id->Id) (p:aj) (m:PM):List.map (gq a) [mO p m]=[mO p m]:=by
 show [Ob.cells ⟨_,_,λ_=>ren a (jc p m),_⟩]=_;rw [iF]
theorem bQ (ids:List Id) (p:aj) (m:PM):jX ids [mO p m]:=⟨λ_ _=>rfl,tt⟩
theorem Ap {p:aj} {m:PM} {q:List Nat} {y:AV} {s:bM} (e:(encS m.s).put q y=encS s):(jc p m).put (1::q) y=jc p { m with s:=s}:=(dB (ab6 rfl)).trans (acY (λz=>bI 263 [ak p,z,.int m.g,.int m.fuel,.int m.val,.bool m.over]) e)
theorem kQ (p:aj) (m:PM) (x:Int):(jc p m).put [4] (.int x)=jc p { m with val:=x}:=dB (ab6 rfl)
theorem zC (p:aj) (m:PM) (x:Bool):(jc p m).put [5] (.bool x)=jc p { m with over:=x}:=dB (ab6 rfl)
abbrev aC (m:PM):iP:=goI m.s m.g
abbrev eU (m:PM) (x:iP):PM:={ m with s:={ m.s with gos:=m.s.gos.set m.g.toNat x} }
abbrev dh (m:PM) (c:Int) (x:iO):PM:={ m with s:={ m.s with chans:=m.s.chans.set c.toNat x} }
structure mX (m:PM):Prop where
 s:mZ m.s
 g:0<=m.g/\m.g<6
theorem mZ.eU {s:bM} (h:mZ s) {k:Nat} {x:iP} (hx:Az x):mZ { s with gos:=s.gos.set k x}:=⟨h.vars,h.owner,h.chans,by show (s.gos.set k x).length=6;rw [adw];exact h.gos,h.ch,λg hg=>by
 rcases adP hg with a | a
 ·exact h.go g a
 ·rw [a];exact hx⟩
theorem mZ.dh {s:bM} (h:mZ s) {k:Nat} {x:iO} (hx:DX x):mZ { s with chans:=s.chans.set k x}:=⟨h.vars,h.owner,by show (s.chans.set k x).length=4;rw [adw];exact h.chans,h.gos,λc hc=>by
 rcases adP hc with a | a
 ·exact h.ch c a
 ·rw [a];exact hx,h.go⟩
theorem mZ.setVar {s:bM} (h:mZ s) (k:Nat) (x:Int):mZ { s with vars:=s.vars.set k x}:=⟨by show (s.vars.set k x).length=8;rw [adw];exact h.vars,h.owner,h.chans,h.gos,h.ch,h.go⟩
theorem mZ.setOwn {s:bM} (h:mZ s) (k:Nat) (x:Int):mZ { s with owner:=s.owner.set k x}:=⟨h.vars,by show (s.owner.set k x).length=4;rw [adw];exact h.owner,h.chans,h.gos,h.ch,h.go⟩
theorem N8 {p:aj} {m:PM} {q:List Nat} {y:AV} {x:iP} (h:m.g.toNat<m.s.gos.length) (e:(bW (aC m)).put q y=bW x):(jc p m).put (1::3::m.g.toNat::q) y=jc p (eU m x):=Ap (ng h e)
theorem nK {p:aj} {m:PM} {c:Int} {q:List Nat} {y:AV} {x:iO} (h:c.toNat<m.s.chans.length) (e:(dY (bV m.s c)).put q y=dY x):(jc p m).put (1::2::c.toNat::q) y=jc p (dh m c x):=Ap (uU h e)
theorem BR {p:aj} {m:PM} {q:List Nat} {y:AV} {x:iP} (h:mX m) (e:(bW (aC m)).put q y=bW x):(jc p m).put (1::3::m.g.toNat::q) y=jc p (eU m x):=N8 (by rw [h.s.gos];have:=h.g;omega) e
theorem ZN {p:aj} {m:PM} {c:Int} {q:List Nat} {y:AV} {x:iO} (h:mX m) (hc:0<=c/\c<4) (e:(dY (bV m.s c)).put q y=dY x):(jc p m).put (1::2::c.toNat::q) y=jc p (dh m c x):=nK (by rw [h.s.chans];omega) e
theorem jZ {s:bM} {c:Int} {x:iO} (hl:c.toNat<s.chans.length):bV { s with chans:=s.chans.set c.toNat x} c=x:=by
 show (s.chans.set c.toNat x).getD c.toNat Bd=x;simp [hl]
theorem xu {m:PM} {c:Int} (x y:iO):dh (dh m c x) c y=dh m c y:=by simp [dh]
theorem BU {p:aj} {m:PM} {c:Int} {q a:List Nat} {y b:AV} {x x':iO} (h:c.toNat<m.s.chans.length) (e:(dY (bV m.s c)).put q y=dY x) (d:(dY x).put a b=dY x'):((jc p m).put (1::2::c.toNat::q) y).put (1::2::c.toNat::a) b=jc p (dh m c x'):=by
 rw [nK h e,nK (m:=dh m c x) (x:=x') (by show c.toNat<(m.s.chans.set _ _).length;rw [adw];exact h) (by rw [jZ h];exact d),xu]
theorem N9 {p:aj} {m:PM} {c:Int} {q b d:List Nat} {y f g:AV} {x x' a:iO} (h:c.toNat<m.s.chans.length) (e:(dY (bV m.s c)).put q y=dY x) (i:(dY x).put b f=dY x') (j:(dY x').put d g=dY a):(((jc p m).put (1::2::c.toNat::q) y).put (1::2::c.toNat::b) f).put (1::2::c.toNat::d) g=jc p (dh m c a):=by
 rw [BU h e i,nK (m:=dh m c x') (x:=a) (by show c.toNat<(m.s.chans.set _ _).length;rw [adw];exact h) (by rw [jZ h];exact j),xu]
abbrev rO (m:PM):AV := .ptr (.b 0) 1 0 [1,3,m.g.toNat]
theorem QB (p:aj) (m:PM) (hg:0<=m.g/\m.g<6):AC Tryz.prog T aI 162 [.ptr (.b 0) 1 0 []] [mO p m] (rO m) [mO p m]:=by
 refine aX Tryz.func162 ?_;refine sg rfl (sq (drs [] rfl ?_ ?_))
 ·simp [-List.getD_eq_getElem?_getD,ay,under];omega
 exact WP.ret (aG hT [] (ts:=[(2,rO m)]) (l:=[rO m]) trivial cX ⟨obs rfl,tt⟩ rfl rfl rfl)
theorem sQ (p:aj) (m:PM) (hg:0<=m.g/\m.g<6):AC Tryz.prog T aI 162 [.ptr (.b 0) 1 0 []] (List.map (gq (sig [.b 0] 0)) [mO p m]) (rO m) [mO p m]:=by rw [mY];exact QB p m hg
def bU (m:PM) (r x:Int):PM:=if 0<=r then eU m (rY (aC m) r x)else m
theorem o8 {m:PM} (h:mX m) (r x:Int):mX (bU m r x):=by
 unfold bU;split
 ·exact ⟨h.s.eU (by show ((aC m).regs.set _ _).length=8;rw [adw];exact gW h.s _),h.g⟩
 exact h
theorem ZX (p:aj) (m:PM) (r x:Int) (h:mX m) (k:r<8):AC Tryz.prog T aI 227 [.ptr (.b 0) 1 0 [],.int r,.int x] [mO p m] (.tup []) [mO p (bU m r x)]:=by
 refine aX Tryz.func227 ?_;refine sg rfl (cd rfl (λc=>?_) (λc=>?_))
 ·have a:0<=r:=by simpa using c
  have i:(aC m).regs.length=8:=gW h.s _
  refine rgs [⟨true,[.b 0],rO m,[mO p m]⟩] rfl ?_ ?_
  ·have j:=sQ p m h.g;have d:=bQ [.b 0] p m;have f:=bQ (bs 1) p m;exact au
  change Fin ..
  first
  | (
   refine aG hT [] (ts:=[]) (l:=[]) trivial trivial ⟨obs rfl (hg:=q0 (ah ?_)),tt⟩ rfl rfl rfl
   show (ren _ (jc p m)).put _ _=_
   rw [iF,bU,aaW a]
   exact BR h (kN x (by omega)))
  | (
   have e:bU m r x=m:=by rw [bU,MC (by simp at c;omega)]
   rw [e]
   exact aG hT [] (ts:=[]) (l:=[]) trivial trivial ⟨obs rfl,tt⟩ rfl rfl rfl)
 ·refine sk ?_
  change Fin ..
  first
  | (
   refine aG hT [] (ts:=[]) (l:=[]) trivial trivial ⟨obs rfl (hg:=q0 (ah ?_)),tt⟩ rfl rfl rfl
   show (ren _ (jc p m)).put _ _=_
   rw [iF,bU,aaW a]
   exact BR h (kN x (by omega)))
  | (
   have e:bU m r x=m:=by rw [bU,MC (by simp at c;omega)]
   rw [e]
   exact aG hT [] (ts:=[]) (l:=[]) trivial trivial ⟨obs rfl,tt⟩ rfl rfl rfl)
theorem oP (p:aj) (m:PM) (r x:Int) (h:mX m) (a:r<8):AC Tryz.prog T aI 227 [.ptr (.b 0) 1 0 [],.int r,.int x] (List.map (gq (sig [.b 0] 0)) [mO p m]) (.tup []) [mO p (bU m r x)]:=by rw [mY];exact ZX p m r x h a
def jV (m:PM) (why:Int):PM:={ eU m (kH (aC m) 4 why)with val:=0,over:=true}
theorem wJ {m:PM} (h:mX m) (why:Int):mX (jV m why):=⟨h.s.eU rfl,h.g⟩
theorem abN (g:iP) (why:Int):((((T 59).zero.put [0] (.int 4)).put [1] (.int g.func)).put [2] (.int g.pc)).put [3] (.int why)=bW (kH g 4 why):=by
 rw [FV,gu,show (bW { go0 with status:=4}).put [1] (.int g.func)=bW { go0 with status:=4,func:=g.func}from dB (ab6 rfl),qg,DN];rfl
theorem aas (p:aj) (m:PM) (why:Int) (h:mX m):AC Tryz.prog T aI 233 [.ptr (.b 0) 1 0 [],.int why] [mO p m] (.tup []) [mO p (jV m why)]:=by
 refine aX Tryz.func233 ?_;refine sq (rgs [⟨true,[.b 0],rO m,[mO p m]⟩] rfl ?_ ?_)
 ·have d:=sQ p m h.g;have a:=bQ [.b 0] p m;have c:=bQ (bs 1) p m;exact au
 refine sq (wE [(0,.ptr (.b 0) 1 0 []),(1,.int why),(4,rO m)] [(.b 0,mO p m)] ⟨obs rfl (hg:=q0 (ah (iF _ _ _))),tt⟩ ?_);refine dr [] rfl (wE [(0,.ptr (.b 0) 1 0 [])] [(.b 0,mO p (eU m (kH (aC m) 4 why)))] ⟨obs rfl (hg:=q0 (ah (BR h (by rw [<- abN];rfl)))),tt⟩ ?_);refine rg [] rfl ?_;change Fin ..;refine aG hT [] (ts:=[]) (l:=[]) trivial trivial ⟨obs rfl (hg:=q0 (ah ?_)),tt⟩ rfl rfl rfl;exact (acY (λz=>AV.put z [5] (.bool true)) (kQ p (eU m (kH (aC m) 4 why)) 0)).trans (zC p { eU m (kH (aC m) 4 why)with val:=0} true)
theorem wS (p:aj) (m:PM) (why:Int) (h:mX m):AC Tryz.prog T aI 233 [.ptr (.b 0) 1 0 [],.int why] (List.map (gq (sig [.b 0] 0)) [mO p m]) (.tup []) [mO p (jV m why)]:=by rw [mY];exact aas p m why h
def gY (p:aj) (m:PM) (g:Int):PM:={ m with s:=(cO p m.s g m.fuel).1}
theorem Hf (p:aj) (m:PM) (g:Int) (h:mZ m.s):AC Tryz.prog T aI 163 [.ptr (.b 0) 1 0 [],.int g] [mO p m] (.tup []) [mO p (gY p m g)]:=by
 refine aX Tryz.func163 ?_;refine drs [CG.pure (.tup [encS (cO p m.s g m.fuel).1,.int (cO p m.s g m.fuel).2])] rfl ?_ ?_
 ·have a:=Uo p m.s g m.fuel h;exact au
 change Fin ..;exact aG hT [] (ts:=[]) (l:=[]) trivial trivial ⟨obs rfl (hg:=q0 (ah (Ap (ac3 _ _)))),tt⟩ rfl rfl rfl
abbrev chM (c:Int):AV := .ptr (.b 0) 1 0 [1,2,c.toNat]
theorem gG {m:PM} (h:mX m) (x:Int):mX { m with val:=x}:=⟨h.s,h.g⟩
theorem XC {m:PM} (h:mX m) (x:Bool):mX { m with over:=x}:=⟨h.s,h.g⟩
theorem XD {m:PM} (h:mX m) {x:iP} (hx:Az x):mX (eU m x):=⟨h.s.eU hx,h.g⟩
theorem vI {m:PM} (h:mX m) (c:Int) {x:iO} (hx:DX x):mX (dh m c x):=⟨h.s.dh hx,h.g⟩
abbrev oL (x:iO) (k v:Int):iO:={ x with buf:=x.buf.set k.toNat v}
def iM (p:aj) (m:PM) (c x:Int):PM :=
 if (bV m.s c).closed=true then jV { m with val:=x} 4 else
 if 0<p.chans.getD c.toNat 0 then dh { m with val:=x} c { oL (bV m.s c) (bV m.s c).len x with len:=(bV m.s c).len+1}else
 { eU (dh { m with val:=x} c { bV m.s c with offer:=1,frm:=m.g,val:=x}) { aC m with status:=2}with over:=true}
theorem GX {p:aj} {m:PM} (h:mX m) (c x:Int):mX (iM p m c x):=by
 have hb:(bV m.s c).buf.length=4:=kD h.s _;unfold iM;split
 ·exact wJ (gG h x) 4
 split;{exact vI (gG h x) c (by show ((bV m.s c).buf.set _ _).length=4;rw [adw];exact hb)};exact XC (XD (vI (gG h x) c (x:={ bV m.s c with offer:=1,frm:=m.g,val:=x}) hb) (x:={ aC m with status:=2}) (gW h.s _)) true
theorem XQ (p:aj) (m:PM) (c x:Int) (h:mX m) (hc:bg c p.chans.length) (hp:qH p) (y:jP p m.s c=true) (hlen:0<=(bV m.s c).len):AC Tryz.prog T aI 225 [.ptr (.b 0) 1 0 [],.int c,.int x] [mO p m] (.tup []) [mO p (iM p m c x)]:=by
 refine aX Tryz.func225 ?_;have v:=hp.chans;have u:p.chans.getD c.toNat 0<=4:=(hp.caps _ (by unfold bg at hc;rw [aaV,aaT (show c.toNat<p.chans.length by omega)];exact acn _)).2;unfold bg at hc;have o:0<=c/\c<4:=by omega
 have hb:(bV m.s c).buf.length=4:=kD h.s _;refine sq (rgs [] rfl ?_ ?_)
 ·simp [-List.getD_eq_getElem?_getD,ay,under];omega
 refine sg rfl (bk (sq ?_));refine wE [(0,.ptr (.b 0) 1 0 []),(1,.int c),(2,.int x),(6,chM c)] [(.b 0,mO p { m with val:=x})] ⟨obs rfl (hg:=q0 (ah (kQ _ _ _))),tt⟩ (rg [] rfl ?_);refine cd rfl (λi=>?_) (λi=>?_)
 ·have d:(bV m.s c).closed=true:=by simp [-List.getD_eq_getElem?_getD]at i;exact i
  refine rgs [⟨true,[.b 0],.tup [],[mO p (jV { m with val:=x} 4)]⟩] rfl ?_ ?_
  ·have w:=wS p { m with val:=x} 4 (gG h x);have q:=bQ [.b 0] p { m with val:=x};have r:=bQ (bs 1) p (jV { m with val:=x} 4);exact au
  change Fin ..
  first
  | (
   refine aG hT [] (ts:=[]) (l:=[]) trivial trivial ⟨obs rfl (hg:=q0 (ah ?_)),tt⟩ rfl rfl rfl
   rw [iM,aaW d]
   exact iF _ _ _)
  | (
   refine aG hT [] (ts:=[]) (l:=[]) trivial trivial ⟨obs rfl (hg:=q0 (ah ?_)),tt⟩ rfl rfl rfl
   rw [iM,MC d,aaW f]
   have a:c.toNat<m.s.chans.length:=by rw [h.s.chans];omega
   have j:IntKind.i64.wrap ((bV (dh { m with val:=x} c (oL (bV m.s c) (bV m.s c).len x)).s c).len+1)=(bV m.s c).len+1:=by rw [jZ a];exact bK (by show _<=(bV m.s c).len+1;omega) (by show (bV m.s c).len+1<_;omega)
   show (jc p (dh { m with val:=x} c (oL (bV m.s c) (bV m.s c).len x))).put [1,2,c.toNat,1] (AV.int (IntKind.i64.wrap ((bV (dh { m with val:=x} c (oL (bV m.s c) (bV m.s c).len x)).s c).len+1)))=_
   rw [j]
   refine (nK (m:=dh { m with val:=x} c (oL (bV m.s c) (bV m.s c).len x)) (by show c.toNat<(m.s.chans.set _ _).length;rw [adw];exact a) (by rw [jZ a];exact sZ _ _)).trans ?_
   rw [xu])
  | (
   refine aG hT [] (ts:=[]) (l:=[]) trivial trivial ⟨obs rfl (hg:=q0 (ah ?_)),tt⟩ rfl rfl rfl
   rw [iM,MC d,MC f]
   exact zC _ _ _)
 ·have d:¬ (bV m.s c).closed=true:=by simp [-List.getD_eq_getElem?_getD]at i;exact λe=>absurd (i.symm.trans e) (by decide)
  refine sq (rgs [] rfl ?_ ?_)
  ·simp [-List.getD_eq_getElem?_getD,ay,under];omega
  refine cd rfl (λn=>?_) (λn=>?_)
  ·have f:0<p.chans.getD c.toNat 0:=by simp [-List.getD_eq_getElem?_getD]at n;omega
   have t:(bV m.s c).len<p.chans.getD c.toNat 0:=by have:=y;simp only [jP,adM,abh,ab8,ade]at this;rcases this with (k | k) | k;{exact absurd k d};{exact k.2};omega
   refine sq (drs [] rfl ?_ ?_)
   ·simp only [bV]at hlen t hb;simp [-List.getD_eq_getElem?_getD,ay,under];omega
   refine wE [(6,chM c)] [(.b 0,mO p (dh { m with val:=x} c (oL (bV m.s c) (bV m.s c).len x)))] ⟨obs rfl (hg:=q0 (ah (ZN (gG h x) o (wC x (by show (bV m.s c).len.toNat<(bV m.s c).buf.length;omega))))),tt⟩ (rg [] rfl ?_)
   change Fin ..
   first
   | (
    refine aG hT [] (ts:=[]) (l:=[]) trivial trivial ⟨obs rfl (hg:=q0 (ah ?_)),tt⟩ rfl rfl rfl
    rw [iM,aaW d]
    exact iF _ _ _)
   | (
    refine aG hT [] (ts:=[]) (l:=[]) trivial trivial ⟨obs rfl (hg:=q0 (ah ?_)),tt⟩ rfl rfl rfl
    rw [iM,MC d,aaW f]
    have a:c.toNat<m.s.chans.length:=by rw [h.s.chans];omega
    have j:IntKind.i64.wrap ((bV (dh { m with val:=x} c (oL (bV m.s c) (bV m.s c).len x)).s c).len+1)=(bV m.s c).len+1:=by rw [jZ a];exact bK (by show _<=(bV m.s c).len+1;omega) (by show (bV m.s c).len+1<_;omega)
    show (jc p (dh { m with val:=x} c (oL (bV m.s c) (bV m.s c).len x))).put [1,2,c.toNat,1] (AV.int (IntKind.i64.wrap ((bV (dh { m with val:=x} c (oL (bV m.s c) (bV m.s c).len x)).s c).len+1)))=_
    rw [j]
    refine (nK (m:=dh { m with val:=x} c (oL (bV m.s c) (bV m.s c).len x)) (by show c.toNat<(m.s.chans.set _ _).length;rw [adw];exact a) (by rw [jZ a];exact sZ _ _)).trans ?_
    rw [xu])
   | (
    refine aG hT [] (ts:=[]) (l:=[]) trivial trivial ⟨obs rfl (hg:=q0 (ah ?_)),tt⟩ rfl rfl rfl
    rw [iM,MC d,MC f]
    exact zC _ _ _)
  ·have f:¬ 0<p.chans.getD c.toNat 0:=by simp [-List.getD_eq_getElem?_getD]at n;omega
   refine sg rfl (sq ?_)
   refine wE [(0,.ptr (.b 0) 1 0 [])] [(.b 0,mO p (dh { m with val:=x} c { bV m.s c with offer:=1,frm:=m.g,val:=x}))] ⟨obs rfl (hg:=q0 (ah (N9 (m:={ m with val:=x}) (by show c.toNat<m.s.chans.length;rw [h.s.chans];omega) (jS _ 1) (wB _ m.g) (mV _ x)))),tt⟩ (rgs [⟨true,[.b 0],rO m,[mO p (dh { m with val:=x} c { bV m.s c with offer:=1,frm:=m.g,val:=x})]⟩] rfl ?_ ?_)
   ·have w:=sQ p (dh { m with val:=x} c { bV m.s c with offer:=1,frm:=m.g,val:=x}) h.g;have q:=bQ [.b 0] p (dh { m with val:=x} c { bV m.s c with offer:=1,frm:=m.g,val:=x});have r:=bQ (bs 1) p (dh { m with val:=x} c { bV m.s c with offer:=1,frm:=m.g,val:=x});exact au
   refine wE [(0,.ptr (.b 0) 1 0 [])] [(.b 0,mO p (eU (dh { m with val:=x} c { bV m.s c with offer:=1,frm:=m.g,val:=x}) { aC m with status:=2}))] ⟨obs rfl (hg:=q0 (ah ((acY (λz=>AV.put z [1,3,m.g.toNat,0] (.int 2)) (iF _ _ _)).trans (BR (vI (gG h x) c hb) (gu _ 2))))),tt⟩ (rg [] rfl ?_)
   change Fin ..
   first
   | (
    refine aG hT [] (ts:=[]) (l:=[]) trivial trivial ⟨obs rfl (hg:=q0 (ah ?_)),tt⟩ rfl rfl rfl
    rw [iM,aaW d]
    exact iF _ _ _)
   | (
    refine aG hT [] (ts:=[]) (l:=[]) trivial trivial ⟨obs rfl (hg:=q0 (ah ?_)),tt⟩ rfl rfl rfl
    rw [iM,MC d,aaW f]
    have a:c.toNat<m.s.chans.length:=by rw [h.s.chans];omega
    have j:IntKind.i64.wrap ((bV (dh { m with val:=x} c (oL (bV m.s c) (bV m.s c).len x)).s c).len+1)=(bV m.s c).len+1:=by rw [jZ a];exact bK (by show _<=(bV m.s c).len+1;omega) (by show (bV m.s c).len+1<_;omega)
    show (jc p (dh { m with val:=x} c (oL (bV m.s c) (bV m.s c).len x))).put [1,2,c.toNat,1] (AV.int (IntKind.i64.wrap ((bV (dh { m with val:=x} c (oL (bV m.s c) (bV m.s c).len x)).s c).len+1)))=_
    rw [j]
    refine (nK (m:=dh { m with val:=x} c (oL (bV m.s c) (bV m.s c).len x)) (by show c.toNat<(m.s.chans.set _ _).length;rw [adw];exact a) (by rw [jZ a];exact sZ _ _)).trans ?_
    rw [xu])
   | (
    refine aG hT [] (ts:=[]) (l:=[]) trivial trivial ⟨obs rfl (hg:=q0 (ah ?_)),tt⟩ rfl rfl rfl
    rw [iM,MC d,MC f]
    exact zC _ _ _)
def jI (l:List Int):List Int:=[l.getD 1 0,l.getD 2 0,l.getD 3 0,l.getD 3 0]
def dH (m:PM) (c:Int):PM×Bool :=
 if 0<(bV m.s c).len then (dh { m with val:=(bV m.s c).buf.getD 0 0} c { bV m.s c with buf:=(jI (bV m.s c).buf).set ((bV m.s c).len - 1).toNat 0,len:=(bV m.s c).len - 1},true)else
 if (bV m.s c).offer=1 then (dh { m with val:=(bV m.s c).val} c { bV m.s c with offer:=2,val:=0},true)else ({ m with val:=0},false)
theorem ug {m:PM} (h:mX m) (c:Int):mX (dH m c).1:=by
 have hb:(bV m.s c).buf.length=4:=kD h.s _;unfold dH;split
 ·exact vI (gG h _) c (by show (List.set _ _ _).length=4;rw [adw];rfl)
 split;{exact vI (gG h _) c (x:={ bV m.s c with offer:=2,val:=0}) hb};exact gG h _
theorem WO {l:List Int} (h:l.length=4):(AV.agg 54 4 λj=>bif Nat.ble 0 j&&Nat.blt j 3 then .int (l.getD (1+j) 0)else .int (l.getD j 0))=kY 54 4 .i64 (jI l):=bY λj=>by
 match j with
 | 0 | 1 | 2 | 3=>rfl
 | j+4=>exact acY AV.int (show l.getD (j+4) 0=0 by simp [adn (show l.length<=j+4 by omega)])
theorem XR (p:aj) (m:PM) (c:Int) (h:mX m) (hc:0<=c/\c<4) (hlen:(bV m.s c).len<=4):AC Tryz.prog T aI 226 [.ptr (.b 0) 1 0 [],.int c] [mO p m] (.bool (dH m c).2) [mO p (dH m c).1]:=by
 refine aX Tryz.func226 ?_;have hb:(bV m.s c).buf.length=4:=kD h.s _;have a:c.toNat<m.s.chans.length:=by rw [h.s.chans];omega
 refine sg rfl (sq (rgs [] rfl ?_ ?_))
 ·simp [-List.getD_eq_getElem?_getD,ay,under];omega
 refine sq (bk (sq (rg [] rfl ?_)));refine cd rfl (λj=>?_) (λj=>?_)
 ·(have d:0<(bV m.s c).len:=by simp [-List.getD_eq_getElem?_getD]at j;omega);refine sg rfl (sq ?_);refine wE [(5,chM c)] [(.b 0,mO p { m with val:=(bV m.s c).buf.getD 0 0})] ⟨obs rfl (hg:=q0 (ah (kQ _ _ _))),tt⟩ (dr [] rfl ?_);refine sq (wE [(5,chM c)] [(.b 0,mO p (dh { m with val:=(bV m.s c).buf.getD 0 0} c { bV m.s c with buf:=jI (bV m.s c).buf}))] ⟨obs rfl (hg:=q0 (ah (nK (m:={ m with val:=(bV m.s c).buf.getD 0 0}) a ((acY (λz=>(dY (bV m.s c)).put [0] z) (WO hb)).trans (dB (ab6 rfl)))))),tt⟩ ?_);refine rg [] rfl ?_;(have k:IntKind.i64.wrap ((bV (dh { m with val:=(bV m.s c).buf.getD 0 0} c { bV m.s c with buf:=jI (bV m.s c).buf}).s c).len - 1)=(bV m.s c).len - 1:=by rw [jZ a];exact bK (by show _<=(bV m.s c).len - 1;omega) (by show (bV m.s c).len - 1<_;omega));refine wE [(5,chM c)] [(.b 0,mO p (dh { m with val:=(bV m.s c).buf.getD 0 0} c { bV m.s c with buf:=jI (bV m.s c).buf,len:=(bV m.s c).len - 1}))] ⟨obs rfl (hg:=q0 (ah ((acY (λz=>AV.put (jc p (dh { m with val:=(bV m.s c).buf.getD 0 0} c { bV m.s c with buf:=jI (bV m.s c).buf})) [1,2,c.toNat,1] (.int z)) k).trans ((nK (m:=dh { m with val:=(bV m.s c).buf.getD 0 0} c { bV m.s c with buf:=jI (bV m.s c).buf}) (by show c.toNat<(m.s.chans.set _ _).length;rw [adw];exact a) (by rw [jZ a];exact sZ _ _)).trans (by rw [xu]))))),tt⟩ (drs [] rfl ?_ ?_);{(have e:(bV (dh { m with val:=(bV m.s c).buf.getD 0 0} c { bV m.s c with buf:=jI (bV m.s c).buf,len:=(bV m.s c).len - 1}).s c).len=(bV m.s c).len - 1:=by rw [jZ a]);(have hA:0<=(bV (dh { m with val:=(bV m.s c).buf.getD 0 0} c { bV m.s c with buf:=jI (bV m.s c).buf,len:=(bV m.s c).len - 1}).s c).len/\(bV (dh { m with val:=(bV m.s c).buf.getD 0 0} c { bV m.s c with buf:=jI (bV m.s c).buf,len:=(bV m.s c).len - 1}).s c).len<4:=by rw [e];omega);simp only [ay,under,CG.pure];(repeat' with_reducible refine And.intro ?_ ?_);(all_goals (try with_reducible intros));all_goals (first | exact trivial | assumption | omega | exact hA | exact hA.1 | exact hA.2 | (simp;done) | grind)};refine sg rfl (rX ?_);(have e:(bV (dh { m with val:=(bV m.s c).buf.getD 0 0} c { bV m.s c with buf:=jI (bV m.s c).buf,len:=(bV m.s c).len - 1}).s c).len=(bV m.s c).len - 1:=by rw [jZ a]);(have g:dH m c=(dh { m with val:=(bV m.s c).buf.getD 0 0} c { bV m.s c with buf:=(jI (bV m.s c).buf).set ((bV m.s c).len - 1).toNat 0,len:=(bV m.s c).len - 1},true):=by rw [dH,aaW d]);rw [g];refine aG hT [] (ts:=[(4,.bool true)]) (l:=[.bool true]) trivial cX ⟨obs rfl (hg:=q0 (ah ?_)),tt⟩ rfl rfl rfl;show (jc p (dh { m with val:=(bV m.s c).buf.getD 0 0} c { bV m.s c with buf:=jI (bV m.s c).buf,len:=(bV m.s c).len - 1})).put [1,2,c.toNat,0,(bV (dh { m with val:=(bV m.s c).buf.getD 0 0} c { bV m.s c with buf:=jI (bV m.s c).buf,len:=(bV m.s c).len - 1}).s c).len.toNat] (.int 0)=_;rw [e];refine (nK (m:=dh { m with val:=(bV m.s c).buf.getD 0 0} c { bV m.s c with buf:=jI (bV m.s c).buf,len:=(bV m.s c).len - 1}) (by show c.toNat<(m.s.chans.set _ _).length;rw [adw];exact a) (by rw [jZ a];exact wC 0 (by show _<4;omega))).trans ?_;rw [xu]
 (have d:¬ 0<(bV m.s c).len:=by simp [-List.getD_eq_getElem?_getD]at j;exact Int.not_lt.mpr j);refine sg rfl (cd rfl (λi=>?_) (λi=>?_));{(have f:(bV m.s c).offer=1:=by simp [-List.getD_eq_getElem?_getD]at i;exact i);refine sg rfl (wE [(5,chM c)] [(.b 0,mO p { m with val:=(bV m.s c).val})] ⟨obs rfl (hg:=q0 (ah (kQ _ _ _))),tt⟩ ?_);refine rg [] rfl (sg rfl ?_);refine rX ?_;(have g:dH m c=(dh { m with val:=(bV m.s c).val} c { bV m.s c with offer:=2,val:=0},true):=by rw [dH,MC d,aaW f]);rw [g];exact aG hT [] (ts:=[(4,.bool true)]) (l:=[.bool true]) trivial cX ⟨obs rfl (hg:=q0 (ah (BU (m:={ m with val:=(bV m.s c).val}) a (jS _ 2) (mV _ 0)))),tt⟩ rfl rfl rfl};(have f:¬ (bV m.s c).offer=1:=by simp [-List.getD_eq_getElem?_getD]at i;exact i);refine sg rfl (sg rfl ?_);refine rX ?_;(have g:dH m c=({ m with val:=0},false):=by rw [dH,MC d,MC f]);rw [g];exact aG hT [] (ts:=[(4,.bool false)]) (l:=[.bool false]) trivial cX ⟨obs rfl (hg:=q0 (ah (kQ _ _ _))),tt⟩ rfl rfl rfl
def lu (m:PM) (c:Int):PM:=eU (dh m c { bV m.s c with offer:=0,frm:=0,val:=0}) { aC m with status:=1}
def qI (m:PM) (c:Int):PM:=if (bV m.s c).offer=3 then jV (lu m c) 4 else lu m c
theorem xJ {m:PM} (h:mX m) (c:Int):mX (lu m c):=XD (vI h c (x:={ bV m.s c with offer:=0,frm:=0,val:=0}) (kD h.s _)) (x:={ aC m with status:=1}) (gW h.s _)
theorem Va (p:aj) (m:PM) (c:Int) (h:mX m) (hc:0<=c/\c<4):AC Tryz.prog T aI 229 [.ptr (.b 0) 1 0 [],.int c] [mO p m] (.tup []) [mO p (qI m c)]:=by
 refine aX Tryz.func229 ?_;have a:c.toNat<m.s.chans.length:=by rw [h.s.chans];omega
 have hb:DX (bV m.s c):=kD h.s _;refine sq (rgs [] rfl ?_ ?_)
 ·simp [-List.getD_eq_getElem?_getD,ay,under];omega
 refine sg rfl (sg rfl ?_);refine sq (wE [(0,.ptr (.b 0) 1 0 []),(5,.bool ((bV m.s c).offer==3))] [(.b 0,mO p (dh m c { bV m.s c with offer:=0,frm:=0,val:=0}))] ⟨obs rfl (hg:=q0 (ah (N9 a (jS _ 0) (wB _ 0) (mV _ 0)))),tt⟩ ?_);refine rgs [⟨true,[.b 0],rO m,[mO p (dh m c { bV m.s c with offer:=0,frm:=0,val:=0})]⟩] rfl ?_ ?_
 ·have i:=sQ p (dh m c { bV m.s c with offer:=0,frm:=0,val:=0}) h.g;have e:=bQ [.b 0] p (dh m c { bV m.s c with offer:=0,frm:=0,val:=0});have f:=bQ (bs 1) p (dh m c { bV m.s c with offer:=0,frm:=0,val:=0});exact au
 refine sq (wE [(0,.ptr (.b 0) 1 0 []),(5,.bool ((bV m.s c).offer==3))] [(.b 0,mO p (lu m c))] ⟨obs rfl (hg:=q0 (ah ((acY (λz=>AV.put z [1,3,m.g.toNat,0] (.int 1)) (iF _ _ _)).trans (BR (vI h c (x:={ bV m.s c with offer:=0,frm:=0,val:=0}) hb) (gu _ 1))))),tt⟩ ?_);refine rg [] rfl (cd rfl (λd=>?_) (λd=>?_))
 ·have hl:(bV m.s c).offer=3:=by simpa using d
  refine rgs [⟨true,[.b 0],.tup [],[mO p (jV (lu m c) 4)]⟩] rfl ?_ ?_
  ·have i:=wS p (lu m c) 4 (xJ h c);have e:=bQ [.b 0] p (lu m c);have f:=bQ (bs 1) p (jV (lu m c) 4);exact au
  change Fin ..
  first
  | (
   refine aG hT [] (ts:=[]) (l:=[]) trivial trivial ⟨obs rfl (hg:=q0 (ah ?_)),tt⟩ rfl rfl rfl
   rw [qI,aaW hl]
   exact iF _ _ _)
  | (
   refine aG hT [] (ts:=[]) (l:=[]) trivial trivial ⟨obs rfl (hg:=q0 (ah ?_)),tt⟩ rfl rfl rfl
   rw [qI,MC hl])
 ·have hl:¬ (bV m.s c).offer=3:=by simpa using d
  refine sk ?_
  change Fin ..
  first
  | (
   refine aG hT [] (ts:=[]) (l:=[]) trivial trivial ⟨obs rfl (hg:=q0 (ah ?_)),tt⟩ rfl rfl rfl
   rw [qI,aaW hl]
   exact iF _ _ _)
  | (
   refine aG hT [] (ts:=[]) (l:=[]) trivial trivial ⟨obs rfl (hg:=q0 (ah ?_)),tt⟩ rfl rfl rfl
   rw [qI,MC hl])
def oq (m:PM) (c:Int):PM:=if (bV m.s c).closed=true then jV m 5 else if (bV m.s c).offer=1 then dh m c { bV m.s c with closed:=true,offer:=3,val:=0}else dh m c { bV m.s c with closed:=true}
theorem XM (p:aj) (m:PM) (c:Int) (h:mX m) (hc:0<=c/\c<4):AC Tryz.prog T aI 230 [.ptr (.b 0) 1 0 [],.int c] [mO p m] (.tup []) [mO p (oq m c)]:=by
 refine aX Tryz.func230 ?_;have a:c.toNat<m.s.chans.length:=by rw [h.s.chans];omega
 refine sq (rgs [] rfl ?_ ?_)
 ·simp [-List.getD_eq_getElem?_getD,ay,under];omega
 refine sq (sq (rg [] rfl ?_));refine cd rfl (λi=>?_) (λi=>?_)
 ·have d:(bV m.s c).closed=true:=i;refine sq (rgs [⟨true,[.b 0],.tup [],[mO p (jV m 5)]⟩] rfl ?_ ?_);{have o:=wS p m 5 h;have k:=bQ [.b 0] p m;have n:=bQ (bs 1) p (jV m 5);exact au};refine rX ?_;refine aG hT [] (ts:=[]) (l:=[]) trivial trivial ⟨obs rfl (hg:=q0 (ah ?_)),tt⟩ rfl rfl rfl;rw [oq,aaW d];exact iF _ _ _
 ·have d:¬ (bV m.s c).closed=true:=λe=>absurd (i.symm.trans e) (by decide)
  refine sk (sq (rg [] rfl ?_))
  refine sq ?_
  have g:(bV (dh m c { bV m.s c with closed:=true}).s c)={ bV m.s c with closed:=true}:=jZ a
  refine wE [(4,chM c)] [(.b 0,mO p (dh m c { bV m.s c with closed:=true}))] ⟨obs rfl (hg:=q0 (ah (nK a (xI _ true)))),tt⟩ (rg [] rfl ?_)
  refine cd rfl (λj=>?_) (λj=>?_)
  ·have f:(bV m.s c).offer=1:=eq_of_beq ((acY (λz:iO=>z.offer==1) g).symm.trans j)
   refine rg [] rfl ?_
   change Fin ..
   first
   | (
    refine aG hT [] (ts:=[]) (l:=[]) trivial trivial ⟨obs rfl (hg:=q0 (ah ?_)),tt⟩ rfl rfl rfl
    rw [oq,MC d,aaW f]
    refine (BU (m:=dh m c { bV m.s c with closed:=true}) (x:={ bV m.s c with closed:=true,offer:=3}) (x':={ bV m.s c with closed:=true,offer:=3,val:=0}) (by show c.toNat<(m.s.chans.set _ _).length;rw [adw];exact a) (by rw [g];exact jS _ 3) (mV _ 0)).trans ?_
    rw [xu])
   | (
    refine aG hT [] (ts:=[]) (l:=[]) trivial trivial ⟨obs rfl (hg:=q0 (ah ?_)),tt⟩ rfl rfl rfl
    rw [oq,MC d,MC f])
  ·have f:¬ (bV m.s c).offer=1:=λe=>absurd ((beq_iff_eq.2 e).symm.trans ((acY (λz:iO=>z.offer==1) g).symm.trans j)) (by decide)
   refine sk ?_
   change Fin ..
   first
   | (
    refine aG hT [] (ts:=[]) (l:=[]) trivial trivial ⟨obs rfl (hg:=q0 (ah ?_)),tt⟩ rfl rfl rfl
    rw [oq,MC d,aaW f]
    refine (BU (m:=dh m c { bV m.s c with closed:=true}) (x:={ bV m.s c with closed:=true,offer:=3}) (x':={ bV m.s c with closed:=true,offer:=3,val:=0}) (by show c.toNat<(m.s.chans.set _ _).length;rw [adw];exact a) (by rw [g];exact jS _ 3) (mV _ 0)).trans ?_
    rw [xu])
   | (
    refine aG hT [] (ts:=[]) (l:=[]) trivial trivial ⟨obs rfl (hg:=q0 (ah ?_)),tt⟩ rfl rfl rfl
    rw [oq,MC d,MC f])
theorem Oq {m:PM} (h:mX m) (c:Int):mX (oq m c):=by
 have hb:DX (bV m.s c):=kD h.s _;unfold oq;split
 ·exact wJ h 5
 split;{exact vI h c (x:={ bV m.s c with closed:=true,offer:=3,val:=0}) hb};exact vI h c (x:={ bV m.s c with closed:=true}) hb
theorem UW {m:PM} (h:mX m) (c:Int):mX (qI m c):=by
 unfold qI;split
 ·exact wJ (xJ h c) 4
 exact xJ h c
def ig (b:Bool):Int:=if b then 1 else 0
theorem DY (b:Bool):AC Tryz.prog T aI 228 [.bool b] [] (.int (ig b)) []:=by
 refine aX Tryz.func228 ?_;refine sg rfl (sq (sq (rg [] rfl ?_)));refine cd rfl (λa=>?_) (λa=>?_)
 ·refine sg rfl (rX ?_);refine bn hT (by rfl) ?_;simp_all [ig]
 refine sk (sq (rg [] rfl ?_));refine rX ?_;refine bn hT (by rfl) ?_;simp_all [ig]
abbrev setVar (m:PM) (k x:Int):PM:={ m with s:={ m.s with vars:=m.s.vars.set k.toNat x} }
abbrev vF (m:PM) (k x:Int):PM:={ m with s:={ m.s with owner:=m.s.owner.set k.toNat x} }
abbrev dJ (m:PM) (x:Int):PM:={ m with val:=x}
theorem KT {m:PM} (h:mX m) (k x:Int):mX (setVar m k x):=⟨h.s.setVar _ _,h.g⟩
theorem KU {m:PM} (h:mX m) (k x:Int):mX (vF m k x):=⟨h.s.setOwn _ _,h.g⟩
theorem Gx {p:aj} {m:PM} (h:mX m) {k:Int} (hk:0<=k/\k<8) (x:Int):(jc p m).put [1,0,k.toNat] (.int x)=jc p (setVar m k x):=Ap (wu x (by rw [h.s.vars];omega))
theorem Gy {p:aj} {m:PM} (h:mX m) {k:Int} (hk:0<=k/\k<4) (x:Int):(jc p m).put [1,1,k.toNat] (.int x)=jc p (vF m k x):=Ap (BQ x (by rw [h.s.owner];omega))
def jC (m:PM) (x:iG):PM:=if ig (jv m.s x.b==bD (aC m) x.c)=1 then setVar (dJ m (ig (jv m.s x.b==bD (aC m) x.c))) x.b (bD (aC m) x.n)else dJ m (ig (jv m.s x.b==bD (aC m) x.c))
def jB (m:PM) (x:iG):PM:=if ig (mM m.s x.b==0)=1 then vF (dJ m (ig (mM m.s x.b==0))) x.b (m.g+1)else dJ m (ig (mM m.s x.b==0))
def sK (m:PM) (x:iG):PM:=bU (dJ m (bD (aC m) x.c)) x.a (jv m.s x.b)
def bF (m:PM) (x:iG):PM×Bool :=
 if x.op=50 then (bU (dJ m (jv m.s x.b)) x.a (jv m.s x.b),true)else if x.op=51 then (setVar (dJ m (bD (aC m) x.b)) x.a (bD (aC m) x.b),true)else
 if x.op=52 then (setVar (sK m x) x.b (wI (jv (sK m x).s x.b+(sK m x).val)),true)else
 if x.op=53 then (bU (jC m x) x.a (ig (jv m.s x.b==bD (aC m) x.c)),true)else if x.op=54 then (dJ m (bD (aC m) x.b),true)else
 if x.op=55 then (vF m x.a (m.g+1),true)else if x.op=56 then (if mM m.s x.a≠m.g+1 then (jV m 6,true)else (vF m x.a 0,true))else
 if x.op=57 then (bU (jB m x) x.a (ig (mM m.s x.b==0)),true)else (m,false)
theorem Cc {m:PM} (h:mX m) (x:iG):mX (jC m x):=by
 unfold jC;split
 ·exact KT (gG h _) _ _
 exact gG h _
theorem Cb {m:PM} (h:mX m) (x:iG):mX (jB m x):=by
 unfold jB;split
 ·exact KU (gG h _) _ _
 exact gG h _
theorem GZ {m:PM} (h:mX m) (x:iG):mX (sK m x):=o8 (gG h _) _ _
theorem GV {m:PM} (h:mX m) (x:iG):mX (bF m x).1:=by
 unfold bF;repeat' split
 ·exact o8 (gG h _) _ _
 ·exact KT (gG h _) _ _
 ·exact KT (GZ h x) _ _
 ·exact o8 (Cc h x) _ _
 ·exact gG h _
 ·exact KU h _ _
 ·exact wJ h _
 ·exact KU h _ _
 ·exact o8 (Cb h x) _ _
 exact h
theorem Un (p:aj) (m:PM) (F:fZ) (x:iG) (h:mX m) (hp:qH p) (hF:wZ p F) (hi:x.op≠66->Dt p F x):AC Tryz.prog T aI 224 [.ptr (.b 0) 1 0 [],aU x] [mO p m] (.bool (bF m x).2) [mO p (bF m x).1]:=by
 refine aX Tryz.func224 ?_;have hr:=hF.regs;have hv:=hp.vars;have b4:=hp.locks;have hg:=h.g;have h8:(aC m).regs.length=8:=gW h.s _;have q:IntKind.i64.wrap (m.g+1)=m.g+1:=bK (by omega) (by omega);refine sg rfl (sq ?_);refine wQ [(.s 3 0,1)] [(0,.ptr (.b 0) 1 0 []),(3,.rp 120 (aU x))] [(.b 0,mO p m)] ⟨obs rfl,tt⟩ (rgs [⟨true,[.b 0],rO m,[mO p m]⟩] rfl ?_ ?_)
 ·have j:=sQ p m h.g;have i:=bQ [.b 0] p m;have f:=bQ (bs 1) p m;exact au
 refine sq (sq ?_);refine wQ [(.s 5 0,1)] [(0,.ptr (.b 0) 1 0 []),(3,.rp 120 (aU x)),(5,.rp 52 (kY 52 8 .i64 (aC m).regs))] [(.b 0,mO p m)] ⟨obs rfl (hg:=q0 (ah (iF _ _ _))),tt⟩ (rg [] rfl ?_);refine bk (sq (rg [] rfl ?_));refine cd rfl (λh4=>?_) (λh4=>?_)
 ·(have e:x.op=50:=by simpa using h4);have hx:=(hi (by omega)).load e;simp only [iT,bg]at hx;refine sq (drs [] rfl ?_ ?_);{simp [-List.getD_eq_getElem?_getD,ay,under];omega};refine wE [(0,.ptr (.b 0) 1 0 []),(3,.rp 120 (aU x))] [(.b 0,mO p (dJ m (jv m.s x.b)))] ⟨obs rfl (hg:=q0 (ah (kQ _ _ _))),tt⟩ (drs [⟨true,[.b 0],.tup [],[mO p (bU (dJ m (jv m.s x.b)) x.a (jv m.s x.b))]⟩] rfl ?_ ?_);{have j:=oP p (dJ m (jv m.s x.b)) x.a (jv m.s x.b) (gG h _) (by omega);have i:=bQ [.b 0] p (dJ m (jv m.s x.b));have f:=bQ (bs 1) p (bU (dJ m (jv m.s x.b)) x.a (jv m.s x.b));exact au};refine sg rfl (rX ?_);(have d:bF m x=(bU (dJ m (jv m.s x.b)) x.a (jv m.s x.b),true):=by rw [bF,aaW e]);rw [d];exact aG hT [] (ts:=[(4,.bool true)]) (l:=[.bool true]) trivial cX ⟨obs rfl (hg:=q0 (ah (iF _ _ _))),tt⟩ rfl rfl rfl
 (have a4:x.op≠50:=by simpa using h4);refine sg rfl (cd rfl (λh7=>?_) (λh7=>?_));{(have e:x.op=51:=by simpa using h7);have hx:=(hi (by omega)).store (.inl e);simp only [iT,bg]at hx;refine sq (rgs [] rfl ?_ ?_);{simp [-List.getD_eq_getElem?_getD,ay,under];omega};refine wE [(0,.ptr (.b 0) 1 0 []),(3,.rp 120 (aU x))] [(.b 0,mO p (dJ m (bD (aC m) x.b)))] ⟨obs rfl (hg:=q0 (ah (kQ _ _ _))),tt⟩ (drs [] rfl ?_ ?_);{simp [-List.getD_eq_getElem?_getD,ay,under];omega};refine sg rfl (rX ?_);(have d:bF m x=(setVar (dJ m (bD (aC m) x.b)) x.a (bD (aC m) x.b),true):=by simp only [bF,e];rfl);rw [d];exact aG hT [] (ts:=[(4,.bool true)]) (l:=[.bool true]) trivial cX ⟨obs rfl (hg:=q0 (ah (Gx (gG h _) (by omega) _))),tt⟩ rfl rfl rfl};(have a5:x.op≠51:=by simpa using h7);refine sg rfl (cd rfl (λr=>?_) (λr=>?_));{(have e:x.op=52:=by simpa using r);have hx:=(hi (by omega)).bump e;simp only [iT,bg]at hx;refine sq (rgs [] rfl ?_ ?_);{simp [-List.getD_eq_getElem?_getD,ay,under];omega};refine sq (wE [(0,.ptr (.b 0) 1 0 []),(3,.rp 120 (aU x))] [(.b 0,mO p (dJ m (bD (aC m) x.c)))] ⟨obs rfl (hg:=q0 (ah (kQ _ _ _))),tt⟩ ?_);refine drs [⟨true,[.b 0],.tup [],[mO p (sK m x)]⟩] rfl ?_ ?_;{have j:=oP p (dJ m (bD (aC m) x.c)) x.a (jv m.s x.b) (gG h _) (by omega);have i:=bQ [.b 0] p (dJ m (bD (aC m) x.c));have f:=bQ (bs 1) p (sK m x);exact au};refine wE [(0,.ptr (.b 0) 1 0 []),(3,.rp 120 (aU x))] [(.b 0,mO p (sK m x))] ⟨obs rfl (hg:=q0 (ah (iF _ _ _))),tt⟩ (drs [] rfl ?_ ?_);{simp [-List.getD_eq_getElem?_getD,ay,under];omega};refine sg rfl (rX ?_);(have d:bF m x=(setVar (sK m x) x.b (wI (jv (sK m x).s x.b+(sK m x).val)),true):=by simp only [bF,e];rfl);rw [d];exact aG hT [] (ts:=[(4,.bool true)]) (l:=[.bool true]) trivial cX ⟨obs rfl (hg:=q0 (ah (Gx (GZ h x) (by omega) _))),tt⟩ rfl rfl rfl};(have a6:x.op≠52:=by simpa using r);refine sg rfl (cd rfl (λt=>?_) (λt=>?_));{(have e:x.op=53:=by simpa using t);have hx:=(hi (by omega)).cas e;simp only [iT,bg]at hx;refine sq (drs [CG.pure (.int (ig (jv m.s x.b==bD (aC m) x.c)))] rfl ?_ ?_);{have j:=DY (jv m.s x.b==bD (aC m) x.c);exact au};refine sq (sq ?_);refine wE [(0,.ptr (.b 0) 1 0 []),(3,.rp 120 (aU x)),(5,.rp 52 (kY 52 8 .i64 (aC m).regs))] [(.b 0,mO p (dJ m (ig (jv m.s x.b==bD (aC m) x.c))))] ⟨obs rfl (hg:=q0 (ah (kQ _ _ _))),tt⟩ (rg [] rfl ?_);refine cd rfl (λu=>?_) (λu=>?_);{have o:ig (jv m.s x.b==bD (aC m) x.c)=1:=eq_of_beq u;(have k:jC m x=setVar (dJ m (ig (jv m.s x.b==bD (aC m) x.c))) x.b (bD (aC m) x.n):=by rw [jC,aaW o]);refine drs [] rfl ?_ ?_;{simp [-List.getD_eq_getElem?_getD,ay,under];omega};refine wE [(0,.ptr (.b 0) 1 0 []),(3,.rp 120 (aU x))] [(.b 0,mO p (jC m x))] ⟨obs rfl (hg:=q0 (ah (by rw [k];exact Gx (gG h _) (by omega) _))),tt⟩ (drs [⟨true,[.b 0],.tup [],[mO p (bU (jC m x) x.a (ig (jv m.s x.b==bD (aC m) x.c)))]⟩] rfl ?_ ?_);{(have ev:(jC m x).val=ig (jv m.s x.b==bD (aC m) x.c):=by rw [k]);have j:=oP p (jC m x) x.a (ig (jv m.s x.b==bD (aC m) x.c)) (Cc h x) (by omega);have i:=bQ [.b 0] p (jC m x);have f:=bQ (bs 1) p (bU (jC m x) x.a (ig (jv m.s x.b==bD (aC m) x.c)));rw [<- ev]at j f ⊢;exact au};refine sg rfl (rX ?_);(have d:bF m x=(bU (jC m x) x.a (ig (jv m.s x.b==bD (aC m) x.c)),true):=by simp only [bF,e];rfl);rw [d];exact aG hT [] (ts:=[(4,.bool true)]) (l:=[.bool true]) trivial cX ⟨obs rfl (hg:=q0 (ah (iF _ _ _))),tt⟩ rfl rfl rfl};have o:¬ ig (jv m.s x.b==bD (aC m) x.c)=1:=λe=>absurd ((beq_iff_eq.2 e).symm.trans u) (by decide);(have k:jC m x=dJ m (ig (jv m.s x.b==bD (aC m) x.c)):=by rw [jC,MC o]);refine sk (wE [(0,.ptr (.b 0) 1 0 []),(3,.rp 120 (aU x))] [(.b 0,mO p (jC m x))] ⟨obs rfl (hg:=q0 (ah (by rw [k]))),tt⟩ ?_);refine drs [⟨true,[.b 0],.tup [],[mO p (bU (jC m x) x.a (ig (jv m.s x.b==bD (aC m) x.c)))]⟩] rfl ?_ ?_;{(have ev:(jC m x).val=ig (jv m.s x.b==bD (aC m) x.c):=by rw [k]);have j:=oP p (jC m x) x.a (ig (jv m.s x.b==bD (aC m) x.c)) (Cc h x) (by omega);have i:=bQ [.b 0] p (jC m x);have f:=bQ (bs 1) p (bU (jC m x) x.a (ig (jv m.s x.b==bD (aC m) x.c)));rw [<- ev]at j f ⊢;exact au};refine sg rfl (rX ?_);(have d:bF m x=(bU (jC m x) x.a (ig (jv m.s x.b==bD (aC m) x.c)),true):=by simp only [bF,e];rfl);rw [d];exact aG hT [] (ts:=[(4,.bool true)]) (l:=[.bool true]) trivial cX ⟨obs rfl (hg:=q0 (ah (iF _ _ _))),tt⟩ rfl rfl rfl};(have a7:x.op≠53:=by simpa using t);refine sg rfl (cd rfl (λv=>?_) (λv=>?_));{(have e:x.op=54:=by simpa using v);have hx:=(hi (by omega)).store (.inr e);simp only [iT,bg]at hx;refine rgs [] rfl ?_ ?_;{simp [-List.getD_eq_getElem?_getD,ay,under];omega};refine sg rfl (rX ?_);(have d:bF m x=(dJ m (bD (aC m) x.b),true):=by simp only [bF,e];rfl);rw [d];exact aG hT [] (ts:=[(4,.bool true)]) (l:=[.bool true]) trivial cX ⟨obs rfl (hg:=q0 (ah (kQ _ _ _))),tt⟩ rfl rfl rfl};(have a8:x.op≠54:=by simpa using v);refine sg rfl (cd rfl (λw=>?_) (λw=>?_));{(have e:x.op=55:=by simpa using w);have hx:=(hi (by omega)).lock (.inl e);refine drs [] rfl ?_ ?_;{simp [-List.getD_eq_getElem?_getD,ay,under];omega};refine sg rfl (rX ?_);(have d:bF m x=(vF m x.a (m.g+1),true):=by simp only [bF,e];rfl);rw [d];exact aG hT [] (ts:=[(4,.bool true)]) (l:=[.bool true]) trivial cX ⟨obs rfl (hg:=q0 (ah ((acY (λz=>(jc p m).put [1,1,x.a.toNat] (.int z)) q).trans (Gy h (by omega) _)))),tt⟩ rfl rfl rfl};(have a9:x.op≠55:=by simpa using w);refine sg rfl (cd rfl (λy=>?_) (λy=>?_));{(have e:x.op=56:=by simpa using y);have hx:=(hi (by omega)).lock (.inr e);refine sq (sq (drs [] rfl ?_ ?_));{simp [-List.getD_eq_getElem?_getD,ay,under];omega};refine cd rfl (λa0=>?_) (λa0=>?_);{(have o:mM m.s x.a≠m.g+1:=by have h9:(mM m.s x.a != IntKind.i64.wrap (m.g+1))=true:=a0;rw [q]at h9;exact bne_iff_ne.1 h9);refine sq (rgs [⟨true,[.b 0],.tup [],[mO p (jV m 6)]⟩] rfl ?_ ?_);{have j:=wS p m 6 h;have i:=bQ [.b 0] p m;have f:=bQ (bs 1) p (jV m 6);exact au};refine sg rfl (rX ?_);(have d:bF m x=(jV m 6,true):=by simp only [bF,e];exact aaW o);rw [d];exact aG hT [] (ts:=[(4,.bool true)]) (l:=[.bool true]) trivial cX ⟨obs rfl (hg:=q0 (ah (iF _ _ _))),tt⟩ rfl rfl rfl};(have o:¬ mM m.s x.a≠m.g+1:=by have h9:(mM m.s x.a != IntKind.i64.wrap (m.g+1))=false:=a0;rw [q]at h9;simpa using h9);refine sk (drs [] rfl ?_ ?_);{simp [-List.getD_eq_getElem?_getD,ay,under];omega};refine sg rfl (rX ?_);(have d:bF m x=(vF m x.a 0,true):=by simp only [bF,e];exact MC o);rw [d];exact aG hT [] (ts:=[(4,.bool true)]) (l:=[.bool true]) trivial cX ⟨obs rfl (hg:=q0 (ah (Gy h (by omega) _))),tt⟩ rfl rfl rfl};(have b0:x.op≠56:=by simpa using y);refine sg rfl (cd rfl (λa1=>?_) (λa1=>?_));{(have e:x.op=57:=by simpa using a1);have hx:=(hi (by omega)).try_ e;simp only [iT,bg]at hx;refine sq (drs [CG.pure (.int (ig (mM m.s x.b==0)))] rfl ?_ ?_);{have j:=DY (mM m.s x.b==0);exact au};refine sq (sq ?_);refine wE [(0,.ptr (.b 0) 1 0 []),(3,.rp 120 (aU x))] [(.b 0,mO p (dJ m (ig (mM m.s x.b==0))))] ⟨obs rfl (hg:=q0 (ah (kQ _ _ _))),tt⟩ (rg [] rfl ?_);refine cd rfl (λa2=>?_) (λa2=>?_);{have o:ig (mM m.s x.b==0)=1:=eq_of_beq a2;(have k:jB m x=vF (dJ m (ig (mM m.s x.b==0))) x.b (m.g+1):=by rw [jB,aaW o]);refine drs [] rfl ?_ ?_;{simp [-List.getD_eq_getElem?_getD,ay,under];omega};refine wE [(0,.ptr (.b 0) 1 0 []),(3,.rp 120 (aU x))] [(.b 0,mO p (jB m x))] ⟨obs rfl (hg:=q0 (ah (by rw [k];exact (acY (λz=>(jc p (dJ m (ig (mM m.s x.b==0)))).put [1,1,x.b.toNat] (.int z)) q).trans (Gy (gG h _) (by omega) _)))),tt⟩ (drs [⟨true,[.b 0],.tup [],[mO p (bU (jB m x) x.a (ig (mM m.s x.b==0)))]⟩] rfl ?_ ?_);{(have ev:(jB m x).val=ig (mM m.s x.b==0):=by rw [k]);have j:=oP p (jB m x) x.a (ig (mM m.s x.b==0)) (Cb h x) (by omega);have i:=bQ [.b 0] p (jB m x);have f:=bQ (bs 1) p (bU (jB m x) x.a (ig (mM m.s x.b==0)));rw [<- ev]at j f ⊢;exact au};refine sg rfl (rX ?_);(have d:bF m x=(bU (jB m x) x.a (ig (mM m.s x.b==0)),true):=by simp only [bF,e];rfl);rw [d];exact aG hT [] (ts:=[(4,.bool true)]) (l:=[.bool true]) trivial cX ⟨obs rfl (hg:=q0 (ah (iF _ _ _))),tt⟩ rfl rfl rfl};have o:¬ ig (mM m.s x.b==0)=1:=λe=>absurd ((beq_iff_eq.2 e).symm.trans a2) (by decide);(have k:jB m x=dJ m (ig (mM m.s x.b==0)):=by rw [jB,MC o]);refine sk (wE [(0,.ptr (.b 0) 1 0 []),(3,.rp 120 (aU x))] [(.b 0,mO p (jB m x))] ⟨obs rfl (hg:=q0 (ah (by rw [k]))),tt⟩ ?_);refine drs [⟨true,[.b 0],.tup [],[mO p (bU (jB m x) x.a (ig (mM m.s x.b==0)))]⟩] rfl ?_ ?_;{(have ev:(jB m x).val=ig (mM m.s x.b==0):=by rw [k]);have j:=oP p (jB m x) x.a (ig (mM m.s x.b==0)) (Cb h x) (by omega);have i:=bQ [.b 0] p (jB m x);have f:=bQ (bs 1) p (bU (jB m x) x.a (ig (mM m.s x.b==0)));rw [<- ev]at j f ⊢;exact au};refine sg rfl (rX ?_);(have d:bF m x=(bU (jB m x) x.a (ig (mM m.s x.b==0)),true):=by simp only [bF,e];rfl);rw [d];exact aG hT [] (ts:=[(4,.bool true)]) (l:=[.bool true]) trivial cX ⟨obs rfl (hg:=q0 (ah (iF _ _ _))),tt⟩ rfl rfl rfl};(have b1:x.op≠57:=by simpa using a1);refine sg rfl (rX ?_);(have d:bF m x=(m,false):=by rw [bF,MC a4,MC a5,MC a6,MC a7,MC a8,MC a9,MC b0,MC b1]);rw [d];exact aG hT [] (ts:=[(4,.bool false)]) (l:=[.bool false]) trivial cX ⟨obs rfl,tt⟩ rfl rfl rfl
def yG (g:iP) (c:Int) (k:Nat):List Int:=(List.range 8).map λi=>if i<k then bD g (c+i)else 0
theorem GK (g:iP) (c:Int) (k:Nat):(yG g c k).length=8:=by simp [yG]
theorem Oi {g:iP} {c:Int} {k:Nat} (h:k<8):(yG g c k).set k (bD g (c+k))=yG g c (k+1):=by
 refine List.ext_getElem (by simp [yG]) λi b a=>?_;have hi:i<8:=by simpa [yG]using a
 rw [List.getElem_set];simp only [yG,aeN,aeB];split
 ·subst_vars;rw [aaW (by omega)]
 by_cases e:i<k;{rw [aaW e,aaW (by omega)]};rw [MC e,MC (by omega)]
def qX (g:iP) (x:iG) (k:Nat):iP:={ status:=1,func:=x.b,pc:=0,why:=0,regs:=yG g x.c k}
abbrev qN (p:aj) (x:iG):Int:=(p.funcs.getD x.b.toNat lI).params
def jG (p:aj) (m:PM) (x:iG):PM:={ m with s:={ m.s with gos:=m.s.gos.set m.s.count.toNat (qX (aC m) x (qN p x).toNat),count:=m.s.count+1},val:=m.s.count}
def jl (p:aj) (m:PM) (x:iG):PM×Int:=if m.s.count=6 then (jV m 8,-1)else (bU (jG p m x) x.a m.s.count,m.s.count)
theorem Au {p:aj} {m:PM} (h:mX m) (x:iG):mX (jG p m x):=⟨⟨h.s.vars,h.s.owner,h.s.chans,by show (m.s.gos.set _ _).length=6;rw [adw];exact h.s.gos,h.s.ch,λg hg=>by
 rcases adP hg with a | a
 ·exact h.s.go g a
 ·rw [a];exact GK _ _ _⟩,h.g⟩
theorem Js {p:aj} {m:PM} (h:mX m) (x:iG):mX (jl p m x).1:=by
 unfold jl;split
 ·exact wJ h 8
 exact o8 (Au h x) _ _
theorem YS (g:iP) (x:iG):((T 59).zero.put [0] (.int 1)).put [1] (.int x.b)=bW (qX g x 0):=by
 rw [FV,gu,show (bW { go0 with status:=1}).put [1] (.int x.b)=bW { go0 with status:=1,func:=x.b}from dB (ab6 rfl)];rfl
theorem Wy (p:aj) (m:PM) (F:fZ) (x:iG) (h:mX m) (hp:qH p) (hF:wZ p F) (hi:Dt p F x) (n:x.op=62) (a4:0<=m.s.count/\m.s.count<=6):AC Tryz.prog T aI 232 [.ptr (.b 0) 1 0 [],aU x] [mO p m] (.int (jl p m x).2) [mO p (jl p m x).1]:=by
 refine aX Tryz.func232 ?_;have hr:=hF.regs;have hs:=hi.spawn n;have a5:=hp.funcs;simp only [iT,bg]at hs;have j:p.funcs.getD x.b.toNat lI∈p.funcs:=by rw [aaV,aaT (show x.b.toNat<p.funcs.length by omega)];exact acn _
 have a9:=(hp.fn _ j).pars;have a0:=(hp.fn _ j).regs;have a8:(qN p x=0/\x.c=0)\/0<qN p x/\0<=x.c/\x.c+qN p x<=F.regs:=by have d:=hs.2.2 _ rfl;rcases d with d | d;{exact .inl d};refine .inr ⟨d.1,d.2.1,?_⟩;have h2:=d.2.2;rw [bK (by omega) (by omega)]at h2;show x.c+(p.funcs.getD x.b.toNat lI).params<=F.regs;omega
 have u:0<=qN p x/\qN p x<=8:=by show 0<=(p.funcs.getD x.b.toNat lI).params/\(p.funcs.getD x.b.toNat lI).params<=8;omega
 have a6:=h.s.gos;have a7:=h.g;refine sg rfl (sq (sq ?_));refine wQ [(.s 3 0,1)] [(0,.ptr (.b 0) 1 0 []),(3,.rp 120 (aU x))] [(.b 0,mO p m)] ⟨obs rfl,tt⟩ (rg [] rfl ?_);refine cd rfl (λd=>?_) (λd=>?_)
 ·have y:m.s.count=6:=eq_of_beq d;refine sq (rgs [⟨true,[.b 0],.tup [],[mO p (jV m 8)]⟩] rfl ?_ ?_);{have v:=wS p m 8 h;have f:=bQ [.b 0] p m;have i:=bQ (bs 1) p (jV m 8);exact au};refine sg rfl (rX ?_);(have o:jl p m x=(jV m 8,-1):=by rw [jl,aaW y]);rw [o];exact aG hT [] (ts:=[(4,.int (-1))]) (l:=[.int (-1)]) trivial cX ⟨obs rfl (hg:=q0 (ah (iF _ _ _))),tt⟩ rfl rfl rfl
 have y:¬ m.s.count=6:=λe=>absurd ((beq_iff_eq.2 e).symm.trans d) (by decide);refine sk (sq (rg [] rfl ?_));refine sq (sq (drs [] rfl ?_ ?_));{simp [-List.getD_eq_getElem?_getD,ay,under];omega};refine bk (WP.loop (α:=Nat) (λk=>aN [(0,.ptr (.b 0) 1 0 []),(3,.rp 120 (aU x)),(5,.ptr (.s 5 0) 1 0 []),(28,.int (qN p x)),(29,.int k)] [(.b 0,mO p m),(.s 5 0,.cells ⟨59,1,λ_=>bW (qX (aC m) x k),0⟩)]) (λk=>(k:Int)<=qN p x) (λk=>8 - k) ?_ ?_);{refine ⟨0,?_,?_⟩;{exact u.1};refine eX cX ⟨obs rfl,obs rfl (hg:=q0 (ah (YS _ _))),tt⟩};rintro k hk;refine sg rfl (sq ?_);refine cd rfl (λq=>?_) (λq=>?_);{have t:(k:Int)<qN p x:=aeb q;have hw:IntKind.i64.wrap (x.c+(k:Int))=x.c+k:=bK (by omega) (by omega);refine sk (sq (bk (sq (rg [] rfl ?_))));refine drs [⟨true,[.b 0],rO m,[mO p m]⟩] rfl ?_ ?_;{have v:=sQ p m h.g;have f:=bQ [.b 0] p m;have i:=bQ (bs 1) p m;(have r:0<=IntKind.i64.wrap (x.c+(k:Int))/\IntKind.i64.wrap (x.c+(k:Int))<8:=by rw [hw];omega);simp only [ay,under,CG.pure];(repeat' with_reducible refine And.intro ?_ ?_);(all_goals (try with_reducible intros));all_goals (first | exact trivial | assumption | omega | exact v | exact f | exact i | exact r | exact r.1 | exact r.2 | (simp;done) | grind)};refine rg [] rfl ⟨k+1,?_,?_,?_⟩;{omega};{refine eX cX ⟨obs rfl (hg:=q0 (ah (iF _ _ _))),obs rfl (hg:=q0 (ah ((acY (λz:Int=>(bW (qX (aC m) x k)).put [4,(k:Int).toNat] (.int (bD (aC m) z))) hw).trans ((kN _ (by show (k:Int).toNat<(yG _ _ _).length;rw [GK];omega)).trans (by simp only [ac9,qX];rw [Oi (by omega)]))))),tt⟩};(try simp only []);first | omega | grind};have t:¬ (k:Int)<qN p x:=aeC q;(have ek:k=(qN p x).toNat:=by omega);subst ek;refine xt (sq (rg [] rfl ?_));refine sq (drs [] rfl ?_ ?_);{simp [-List.getD_eq_getElem?_getD,ay,under];omega};refine sq (wE [(0,.ptr (.b 0) 1 0 []),(3,.rp 120 (aU x)),(7,.int m.s.count)] [(.b 0,mO p { m with s:={ m.s with gos:=m.s.gos.set m.s.count.toNat (qX (aC m) x (qN p x).toNat) } })] ⟨obs rfl (hg:=q0 (ah (Ap (ng (by omega) (SE _ _))))),tt⟩ ?_);refine rg [] rfl (sq ?_);have w:IntKind.i64.wrap (m.s.count+1)=m.s.count+1:=bK (by omega) (by omega);refine wE [(0,.ptr (.b 0) 1 0 []),(3,.rp 120 (aU x)),(7,.int m.s.count)] [(.b 0,mO p { m with s:={ m.s with gos:=m.s.gos.set m.s.count.toNat (qX (aC m) x (qN p x).toNat),count:=m.s.count+1} })] ⟨obs rfl (hg:=q0 (ah ((acY (λz=>AV.put (jc p { m with s:={ m.s with gos:=m.s.gos.set m.s.count.toNat (qX (aC m) x (qN p x).toNat) } }) [1,4] (.int z)) w).trans (Ap (xH _ _))))),tt⟩ (rg [] rfl ?_);refine sq (wE [(0,.ptr (.b 0) 1 0 []),(3,.rp 120 (aU x)),(7,.int m.s.count)] [(.b 0,mO p (jG p m x))] ⟨obs rfl (hg:=q0 (ah (kQ _ _ _))),tt⟩ ?_);refine drs [⟨true,[.b 0],.tup [],[mO p (bU (jG p m x) x.a m.s.count)]⟩] rfl ?_ ?_;{have v:=oP p (jG p m x) x.a m.s.count (Au h x) (by omega);have f:=bQ [.b 0] p (jG p m x);have i:=bQ (bs 1) p (bU (jG p m x) x.a m.s.count);exact au};refine sg rfl (rX ?_);(have o:jl p m x=(bU (jG p m x) x.a m.s.count,m.s.count):=by rw [jl,MC y]);rw [o];exact aG hT [] (ts:=[(4,.int m.s.count)]) (l:=[.int m.s.count]) trivial cX ⟨obs rfl (hg:=q0 (ah (iF _ _ _))),tt⟩ rfl rfl rfl
theorem Jz (p:aj) (m:PM) (c x:Int) (h:mX m) (hc:bg c p.chans.length) (hp:qH p) (a:jP p m.s c=true) (hlen:0<=(bV m.s c).len):AC Tryz.prog T aI 225 [.ptr (.b 0) 1 0 [],.int c,.int x] (List.map (gq (sig [.b 0] 0)) [mO p m]) (.tup []) [mO p (iM p m c x)]:=by rw [mY];exact XQ p m c x h hc hp a hlen
theorem JA (p:aj) (m:PM) (c:Int) (h:mX m) (hc:0<=c/\c<4) (hlen:(bV m.s c).len<=4):AC Tryz.prog T aI 226 [.ptr (.b 0) 1 0 [],.int c] (List.map (gq (sig [.b 0] 0)) [mO p m]) (.bool (dH m c).2) [mO p (dH m c).1]:=by rw [mY];exact XR p m c h hc hlen
def je (p:aj) (m:PM) (q:uF) (alt:Int):PM×Int :=
 if alt=q.cases.length then (m,q.els)else
 (if (aA q alt.toNat).send=true then iM p m (aA q alt.toNat).chan (bD (aC m) (aA q alt.toNat).reg)else bU (dH m (aA q alt.toNat).chan).1 (aA q alt.toNat).reg (dH m (aA q alt.toNat).chan).1.val,(aA q alt.toNat).to)
theorem QG {p:aj} {m:PM} (h:mX m) (q:uF) (alt:Int):mX (je p m q alt).1:=by
 unfold je;split
 ·exact h
 show mX (if _ then _ else _);split;{exact GX h _ _};exact o8 (ug h _) _ _
def aaS (s:bM):Prop := ∀ c:Int,0<=c/\c<4->0<=(bV s c).len/\(bV s c).len<=4
theorem VB (p:aj) (m:PM) (F:fZ) (q:uF) (alt:Int) (h:mX m) (hp:qH p) (hF:wZ p F) (z:aaJ p F q) (ha:0<=alt/\alt<=q.cases.length) (hl:aaS m.s) (hs:alt<q.cases.length->(aA q alt.toNat).send=true->jP p m.s (aA q alt.toNat).chan=true):AC Tryz.prog T aI 231 [.ptr (.b 0) 1 0 [],jK q,.int alt] [mO p m] (.int (je p m q alt).2) [mO p (je p m q alt).1]:=by
 refine aX Tryz.func231 ?_;have x:=hp.chans;have hr:=hF.regs;refine sg rfl (sq (sq ?_));refine wQ [(.s 4 0,1)] [(0,.ptr (.b 0) 1 0 []),(2,.int alt),(4,.rp 103 (jK q))] [(.b 0,mO p m)] ⟨obs rfl,tt⟩ (rg [] rfl ?_);refine cd rfl (λt=>?_) (λt=>?_)
 ·have r:alt=q.cases.length:=eq_of_beq t;refine sg rfl (rX ?_);(have i:je p m q alt=(m,q.els):=by rw [je,aaW r]);rw [i];exact aG hT [] (ts:=[(6,.int q.els)]) (l:=[.int q.els]) trivial cX ⟨obs rfl,tt⟩ rfl rfl rfl
 have r:¬ alt=q.cases.length:=λe=>absurd ((beq_iff_eq.2 e).symm.trans t) (by decide);(have v:alt.toNat<q.cases.length:=by omega);have d:=z.case (aA q alt.toNat) (by unfold aA;rw [aaV,aaT v];exact acn _);have j:=d.chan;(have a:0<=(aA q alt.toNat).chan/\(aA q alt.toNat).chan<4:=by unfold bg at j;omega);refine sk (sq (rgs [] rfl ?_ ?_));{simp [-List.getD_eq_getElem?_getD,ay,under];omega};refine sq (sq ?_);refine wQ [(.s 7 0,1)] [(0,.ptr (.b 0) 1 0 []),(7,.rp 215 (qo (aA q alt.toNat)))] [(.b 0,mO p m)] ⟨obs rfl,tt⟩ (rg [] rfl ?_);refine cd rfl (λu=>?_) (λu=>?_);{have c:(aA q alt.toNat).send=true:=u;have f:=d.reg (.inl c);unfold iT at f;refine drs [⟨true,[.b 0],rO m,[mO p m]⟩,⟨true,[.b 0],.tup [],[mO p (iM p m (aA q alt.toNat).chan (bD (aC m) (aA q alt.toNat).reg))]⟩] rfl ?_ ?_;{have o:=sQ p m h.g;have k:=bQ [.b 0] p m;have n:=bQ (bs 1) p m;have a0:=Jz p m (aA q alt.toNat).chan (bD (aC m) (aA q alt.toNat).reg) h j hp (hs (by omega) c) (hl _ a).1;have y:=bQ (bs 1) p (iM p m (aA q alt.toNat).chan (bD (aC m) (aA q alt.toNat).reg));(have hx:∀ w:Id->Id,Ob.cells ⟨263,1,λ_=>ren w (jc p m),0⟩=mO p m:=λw=>by rw [iF]);simp only [gq,hx];exact au};refine sg rfl (rX ?_);(have i:je p m q alt=(iM p m (aA q alt.toNat).chan (bD (aC m) (aA q alt.toNat).reg),(aA q alt.toNat).to):=by rw [je,MC r,aaW c]);rw [i];exact aG hT [] (ts:=[(6,.int (aA q alt.toNat).to)]) (l:=[.int (aA q alt.toNat).to]) trivial cX ⟨obs rfl (hg:=q0 (ah (iF _ _ _))),tt⟩ rfl rfl rfl};have c:¬ (aA q alt.toNat).send=true:=λe=>absurd (u.symm.trans e) (by decide);(have f:(aA q alt.toNat).reg<8:=by by_cases e:(aA q alt.toNat).reg = -1;{omega};have:=d.reg (.inr e);unfold iT at this;omega);refine sq (rgs [⟨true,[.b 0],.bool (dH m (aA q alt.toNat).chan).2,[mO p (dH m (aA q alt.toNat).chan).1]⟩] rfl ?_ ?_);{have o:=JA p m (aA q alt.toNat).chan h a (hl _ a).2;have k:=bQ [.b 0] p m;have n:=bQ (bs 1) p (dH m (aA q alt.toNat).chan).1;exact au};refine wE [(0,.ptr (.b 0) 1 0 []),(7,.rp 215 (qo (aA q alt.toNat)))] [(.b 0,mO p (dH m (aA q alt.toNat).chan).1)] ⟨obs rfl (hg:=q0 (ah (iF _ _ _))),tt⟩ (drs [⟨true,[.b 0],.tup [],[mO p (bU (dH m (aA q alt.toNat).chan).1 (aA q alt.toNat).reg (dH m (aA q alt.toNat).chan).1.val)]⟩] rfl ?_ ?_);{have o:=oP p (dH m (aA q alt.toNat).chan).1 (aA q alt.toNat).reg (dH m (aA q alt.toNat).chan).1.val (ug h _) f;have k:=bQ [.b 0] p (dH m (aA q alt.toNat).chan).1;have n:=bQ (bs 1) p (bU (dH m (aA q alt.toNat).chan).1 (aA q alt.toNat).reg (dH m (aA q alt.toNat).chan).1.val);exact au};refine sg rfl (rX ?_);(have i:je p m q alt=(bU (dH m (aA q alt.toNat).chan).1 (aA q alt.toNat).reg (dH m (aA q alt.toNat).chan).1.val,(aA q alt.toNat).to):=by rw [je,MC r,MC c]);rw [i];exact aG hT [] (ts:=[(6,.int (aA q alt.toNat).to)]) (l:=[.int (aA q alt.toNat).to]) trivial cX ⟨obs rfl (hg:=q0 (ah (iF _ _ _))),tt⟩ rfl rfl rfl
theorem Ji {m:PM} {x:iG} (h:(bF m x).2=false):(bF m x).1=m/\(x.op≠50/\x.op≠51/\x.op≠52/\x.op≠53/\x.op≠54/\x.op≠55/\x.op≠56/\x.op≠57):=by
 unfold bF at h ⊢;by_cases a:x.op=50
 ·rw [aaW a]at h;cases h
 rw [MC a]at h ⊢;by_cases b:x.op=51
 ·rw [aaW b]at h;cases h
 rw [MC b]at h ⊢;by_cases c:x.op=52
 ·rw [aaW c]at h;cases h
 rw [MC c]at h ⊢;by_cases d:x.op=53
 ·rw [aaW d]at h;cases h
 rw [MC d]at h ⊢;by_cases e:x.op=54
 ·rw [aaW e]at h;cases h
 rw [MC e]at h ⊢;by_cases f:x.op=55
 ·rw [aaW f]at h;cases h
 rw [MC f]at h ⊢;by_cases g:x.op=56
 ·rw [aaW g]at h;split at h <;> cases h
 rw [MC g]at h ⊢;by_cases i:x.op=57
 ·rw [aaW i]at h;cases h
 rw [MC i];exact ⟨rfl,a,b,c,d,e,f,g,i⟩
def pW (p:aj) (m:PM) (x:iG) (alt:Int):PM×Int×Int :=
 if (bF m x).2=true then ((bF m x).1,(aC m).pc+1,-1)else
 if x.op=58 then (iM p m x.a (bD (aC m) x.b),(aC m).pc+1,-1)else
 if x.op=59 then (bU (bU (dH m x.b).1 x.a (dH m x.b).1.val) x.c (ig (dH m x.b).2),(aC m).pc+1,-1)else
 if x.op=66 then (qI m x.a,(aC m).pc+1,-1)else if x.op=60 then (oq m x.a,(aC m).pc+1,-1)else
 if x.op=61 then ((je p m (aP (bP p (aC m)) x.a.toNat) alt).1,(je p m (aP (bP p (aC m)) x.a.toNat) alt).2,-1)else
 if x.op=62 then ((jl p m x).1,(aC m).pc+1,(jl p m x).2)else
 if x.op=63 then (if jF m.s m.g (bD (aC m) x.a)=true then dJ m (bD (aC m) x.a)else jV (dJ m (bD (aC m) x.a)) 7,(aC m).pc+1,-1)else
 if x.op=65 then (dJ m (bD (aC m) x.a),(aC m).pc+1,-1)else (m,(aC m).pc+1,-1)
theorem uz {p:aj} {s:bM} {q:uF} {x:Int}:∀ {k:Nat},x∈fK p s q k ↔ ∃ j:Nat,j<k/\x=j/\wY p s (aA q j)=true
 | 0=>by simp [fK]
 | k+1=>by rw [fK,kE];constructor;{intro h;split at h;{rename_i hb;rcases List.mem_append.1 h with h | h;{obtain ⟨j,c,a,b⟩:=uz.1 h;exact ⟨j,by omega,a,b⟩};exact ⟨k,by omega,by simpa using h,hb⟩};obtain ⟨j,c,a,b⟩:=uz.1 h;exact ⟨j,by omega,a,b⟩};rintro ⟨j,c,a,b⟩;by_cases e:j=k;{subst e;rw [aaW b];simp [a]};have:x∈fK p s q k:=(uz (k:=k)).2 ⟨j,by omega,a,b⟩;split;{exact adX _ this};exact this
theorem zO {p:aj} {s:bM} {g alt:Int} (a:alt∈iK p s g) (h:(aW p s g).op≠61):iU p s g=true/\alt=0:=by
 rw [iK,aaW h]at a;split at a
 ·rename_i b;exact ⟨b,by simpa using a⟩
 cases a
theorem Dl {p:aj} {s:bM} {g alt:Int} (b:alt∈iK p s g) (h:(aW p s g).op=61):(0<=alt/\alt<=(bJ p s g).cases.length)/\(alt<(bJ p s g).cases.length->wY p s (aA (bJ p s g) alt.toNat)=true):=by
 rw [iK,MC (by simp [h]),kE]at b;have key:alt∈fK p s (bJ p s g) (bJ p s g).cases.length->(0<=alt/\alt<=(bJ p s g).cases.length)/\(alt<(bJ p s g).cases.length->wY p s (aA (bJ p s g) alt.toNat)=true):=λhm=>by obtain ⟨j,a,c,d⟩:=uz.1 hm;exact ⟨by omega,λ_=>by rw [c,ac9];exact d⟩
 split at b
 ·rcases List.mem_append.1 b with a | a;{exact key a};(have c:alt=(bJ p s g).cases.length:=by simpa using a);exact ⟨by omega,λd=>by omega⟩
 exact key b
theorem SY {p:aj} {s:bM} (f:dD p s):aaS s:=λc hc=>by
 have hp:=kC f.1;have b:=f.2.2.2.2.2.1 c.toNat (by omega)
 by_cases d:c.toNat<p.chans.length
 ·have a:=(b.1 d).1.1;have g:=hp.caps (vO p c.toNat) (by simp [vO,d])
  exact ⟨a.1,Int.le_trans a.2 g.2⟩
 ·have a:=b.2 (by omega);have e:bV s c=Bd:=a
  rw [e];decide
def jD (s:bM) (g n:Int):PM:=⟨s,g,n,0,false⟩
theorem ab4 (p:aj) (s:bM) (g n alt:Int) (h:dX p s g) (ha:alt∈iK p s g):AC Tryz.prog T aI 161 [.ptr (.b 0) 1 0 [],aU (aW p s g),.int alt] [mO p (jD s g n)] (.tup [.int (pW p (jD s g n) (aW p s g) alt).2.1,.int (pW p (jD s g n) (aW p s g) alt).2.2]) [mO p (pW p (jD s g n) (aW p s g) alt).1]:=by
 refine aX Tryz.func161 ?_;have hp:=h.prog;have hF:=h.fn;have w:=h.at;have hr:=hF.regs;have d1:=hp.chans;have hi:(aW p s g).op≠66->Dt p (bP p (goI s g)) (aW p s g):=λe=>by rw [w.ins e];exact h.ins
 have d:mX (jD s g n):=⟨h.ok,h.pos⟩;have o:=SY h.valid;have c5:=h.fit.2.2.1;have d2:=hF.code;unfold bg at c5;have hw:IntKind.i64.wrap ((goI s g).pc+1)=(goI s g).pc+1:=bK (by omega) (by omega);obtain ⟨m,hm⟩:∃ m,jD s g n=m:=⟨_,rfl⟩;have t:m.s=s:=by rw [<- hm];rfl
 have d6:m.g=g:=by rw [<- hm];rfl
 have a0:aC m=goI s g:=by rw [<- hm];rfl
 obtain ⟨x,hx⟩:∃ x,aW p s g=x:=⟨_,rfl⟩;rw [hm]at d ⊢;rw [hx]at hi ⊢;rw [<- a0]at hw;have h8:(aC m).regs.length=8:=gW d.s _;refine sg rfl (sq ?_);refine wQ [(.s 4 0,1)] [(0,.ptr (.b 0) 1 0 []),(2,.int alt),(4,.rp 120 (aU x))] [(.b 0,mO p m)] ⟨obs rfl,tt⟩ (rgs [⟨true,[.b 0],rO m,[mO p m]⟩] rfl ?_ ?_)
 ·have u:=sQ p m d.g;have i:=bQ [.b 0] p m;have j:=bQ (bs 1) p m;exact au
 refine sq (sq ?_);refine wT [(0,.ptr (.b 0) 1 0 []),(2,.int alt),(4,.rp 120 (aU x)),(6,.int ((aC m).pc+1)),(7,.int (-1))] [(.b 0,mO p m)] ⟨cq,cq,cq,⟨rfl,_,rfl,ah (acY AV.int hw)⟩,cq,tt⟩ ⟨obs rfl (hg:=q0 (ah (iF _ _ _))),tt⟩ (rgs [⟨true,[.b 0],.bool (bF m x).2,[mO p (bF m x).1]⟩] rfl ?_ ?_)
 ·(have u:AC Tryz.prog T aI 224 [.ptr (.b 0) 1 0 [],aU x] (List.map (gq (sig [.b 0] 0)) [mO p m]) (.bool (bF m x).2) [mO p (bF m x).1]:=by rw [mY];exact Un p m _ x d hp hF hi);have i:=bQ [.b 0] p m;have j:=bQ (bs 1) p (bF m x).1;have hz:ren (sig [.b 0] 0) (aU x)=aU x:=bY (λq=>by match q with | 0 | 1 | 2 | 3 | 4 | q+5=>rfl);rw [<- hz]at u;exact au
 refine cd rfl (λh2=>?_) (λh2=>?_)
 ·have f:(bF m x).2=true:=h2;refine sg rfl (rX ?_);(have k:pW p m x alt=((bF m x).1,(aC m).pc+1,-1):=by rw [pW,aaW f]);rw [k];exact aG hT [] (ts:=[(6,.int ((aC m).pc+1)),(7,.int (-1))]) (l:=[.int ((aC m).pc+1),.int (-1)]) trivial cX ⟨obs rfl (hg:=q0 (ah (iF _ _ _))),tt⟩ rfl rfl rfl
 have f:(bF m x).2=false:=h2;obtain ⟨c8,d7,d8,d9,e0,e1,e2,e3,e4⟩:=Ji f;(have c6:¬ (bF m x).2=true:=by rw [f];decide);refine sk (sq ?_);refine wE [(0,.ptr (.b 0) 1 0 []),(2,.int alt),(4,.rp 120 (aU x)),(6,.int ((aC m).pc+1)),(7,.int (-1))] [(.b 0,mO p m)] ⟨obs rfl (hg:=q0 (ah ((iF _ _ _).trans (by rw [c8])))),tt⟩ (rgs [⟨true,[.b 0],rO m,[mO p m]⟩] rfl ?_ ?_);{have u:=sQ p m d.g;have i:=bQ [.b 0] p m;have j:=bQ (bs 1) p m;exact au};refine sq (sq ?_);refine wQ [(.s 8 0,1)] [(0,.ptr (.b 0) 1 0 []),(2,.int alt),(4,.rp 120 (aU x)),(6,.int ((aC m).pc+1)),(7,.int (-1)),(8,.rp 52 (kY 52 8 .i64 (aC m).regs))] [(.b 0,mO p m)] ⟨obs rfl (hg:=q0 (ah (iF _ _ _))),tt⟩ (rg [] rfl ?_);refine bk (sq (rg [] rfl ?_));refine cd rfl (λh6=>?_) (λh6=>?_);{(have e:x.op=58:=by simpa using h6);have hb:=w.send;rw [hx]at hb;have hb:=hb (.inl e);(have c7:jP p m.s x.a=true:=by have h1:=(zO ha (by rw [hx];omega)).1;unfold iU at h1;rw [hx]at h1;simp only [e]at h1;rw [t];exact h1);have r:=((hi (by omega)).send e).2;have v:=hb;unfold iT at r;unfold bg at v;refine drs [⟨true,[.b 0],.tup [],[mO p (iM p m x.a (bD (aC m) x.b))]⟩] rfl ?_ ?_;{have u:=Jz p m x.a (bD (aC m) x.b) d hb hp c7 (by rw [t];exact (o x.a (by omega)).1);have i:=bQ [.b 0] p m;have j:=bQ (bs 1) p (iM p m x.a (bD (aC m) x.b));exact au};refine sg rfl (rX ?_);(have k:pW p m x alt=(iM p m x.a (bD (aC m) x.b),(aC m).pc+1,-1):=by simp only [pW,f,e];rfl);rw [k];exact aG hT [] (ts:=[(6,.int ((aC m).pc+1)),(7,.int (-1))]) (l:=[.int ((aC m).pc+1),.int (-1)]) trivial cX ⟨obs rfl (hg:=q0 (ah (iF _ _ _))),tt⟩ rfl rfl rfl};(have b6:x.op≠58:=by simpa using h6);refine sg rfl (cd rfl (λh8=>?_) (λh8=>?_));{(have e:x.op=59:=by simpa using h8);have r:=(hi (by omega)).recv e;simp only [iT,bg]at r;refine sq (rgs [⟨true,[.b 0],.bool (dH m x.b).2,[mO p (dH m x.b).1]⟩] rfl ?_ ?_);{have u:=JA p m x.b d (by omega) (by rw [t];exact (o x.b (by omega)).2);have i:=bQ [.b 0] p m;have j:=bQ (bs 1) p (dH m x.b).1;exact au};refine sq (wE [(0,.ptr (.b 0) 1 0 []),(4,.rp 120 (aU x)),(6,.int ((aC m).pc+1)),(7,.int (-1)),(9,.bool (dH m x.b).2)] [(.b 0,mO p (dH m x.b).1)] ⟨obs rfl (hg:=q0 (ah (iF _ _ _))),tt⟩ ?_);refine drs [⟨true,[.b 0],.tup [],[mO p (bU (dH m x.b).1 x.a (dH m x.b).1.val)]⟩] rfl ?_ ?_;{have u:=oP p (dH m x.b).1 x.a (dH m x.b).1.val (ug d _) (by omega);have i:=bQ [.b 0] p (dH m x.b).1;have j:=bQ (bs 1) p (bU (dH m x.b).1 x.a (dH m x.b).1.val);exact au};refine wE [(0,.ptr (.b 0) 1 0 []),(4,.rp 120 (aU x)),(6,.int ((aC m).pc+1)),(7,.int (-1)),(9,.bool (dH m x.b).2)] [(.b 0,mO p (bU (dH m x.b).1 x.a (dH m x.b).1.val))] ⟨obs rfl (hg:=q0 (ah (iF _ _ _))),tt⟩ (drs [CG.pure (.int (ig (dH m x.b).2)),⟨true,[.b 0],.tup [],[mO p (bU (bU (dH m x.b).1 x.a (dH m x.b).1.val) x.c (ig (dH m x.b).2))]⟩] rfl ?_ ?_);{have e5:=DY (dH m x.b).2;have u:=oP p (bU (dH m x.b).1 x.a (dH m x.b).1.val) x.c (ig (dH m x.b).2) (o8 (ug d _) _ _) (by omega);have i:=bQ [.b 0] p (bU (dH m x.b).1 x.a (dH m x.b).1.val);have j:=bQ (bs 1) p (bU (bU (dH m x.b).1 x.a (dH m x.b).1.val) x.c (ig (dH m x.b).2));exact au};refine sg rfl (rX ?_);(have k:pW p m x alt=(bU (bU (dH m x.b).1 x.a (dH m x.b).1.val) x.c (ig (dH m x.b).2),(aC m).pc+1,-1):=by simp only [pW,f,e];rfl);rw [k];exact aG hT [] (ts:=[(6,.int ((aC m).pc+1)),(7,.int (-1))]) (l:=[.int ((aC m).pc+1),.int (-1)]) trivial cX ⟨obs rfl (hg:=q0 (ah (iF _ _ _))),tt⟩ rfl rfl rfl};(have b7:x.op≠59:=by simpa using h8);refine sg rfl (cd rfl (λa2=>?_) (λa2=>?_));{(have e:x.op=66:=by simpa using a2);have hb:=w.send;rw [hx]at hb;have v:=hb (.inr (.inr e));unfold bg at v;refine rgs [⟨true,[.b 0],.tup [],[mO p (qI m x.a)]⟩] rfl ?_ ?_;{(have u:AC Tryz.prog T aI 229 [.ptr (.b 0) 1 0 [],.int x.a] (List.map (gq (sig [.b 0] 0)) [mO p m]) (.tup []) [mO p (qI m x.a)]:=by rw [mY];exact Va p m x.a d (by omega));have i:=bQ [.b 0] p m;have j:=bQ (bs 1) p (qI m x.a);exact au};refine sg rfl (rX ?_);(have k:pW p m x alt=(qI m x.a,(aC m).pc+1,-1):=by simp only [pW,f,e];rfl);rw [k];exact aG hT [] (ts:=[(6,.int ((aC m).pc+1)),(7,.int (-1))]) (l:=[.int ((aC m).pc+1),.int (-1)]) trivial cX ⟨obs rfl (hg:=q0 (ah (iF _ _ _))),tt⟩ rfl rfl rfl};(have c3:x.op≠66:=by simpa using a2);refine sg rfl (cd rfl (λa3=>?_) (λa3=>?_));{(have e:x.op=60:=by simpa using a3);have hb:=w.send;rw [hx]at hb;have v:=hb (.inr (.inl e));unfold bg at v;refine rgs [⟨true,[.b 0],.tup [],[mO p (oq m x.a)]⟩] rfl ?_ ?_;{(have u:AC Tryz.prog T aI 230 [.ptr (.b 0) 1 0 [],.int x.a] (List.map (gq (sig [.b 0] 0)) [mO p m]) (.tup []) [mO p (oq m x.a)]:=by rw [mY];exact XM p m x.a d (by omega));have i:=bQ [.b 0] p m;have j:=bQ (bs 1) p (oq m x.a);exact au};refine sg rfl (rX ?_);(have k:pW p m x alt=(oq m x.a,(aC m).pc+1,-1):=by simp only [pW,f,e];rfl);rw [k];exact aG hT [] (ts:=[(6,.int ((aC m).pc+1)),(7,.int (-1))]) (l:=[.int ((aC m).pc+1),.int (-1)]) trivial cX ⟨obs rfl (hg:=q0 (ah (iF _ _ _))),tt⟩ rfl rfl rfl};(have b8:x.op≠60:=by simpa using a3);refine sg rfl (cd rfl (λa4=>?_) (λa4=>?_));{(have e:x.op=61:=by simpa using a4);have a1:=h.sel (by rw [hx];exact e);have y:=Dl ha (by rw [hx];exact e);simp only [bJ,hx]at a1 y;rw [<- a0]at a1 y;have b3:=a1.1;have a9:=h.fit.2.1;rw [<- a0]at a9;unfold bg at b3 a9;refine drs [⟨true,[.b 0],rO m,[]⟩,⟨true,[.b 0],.int (je p m (aP (bP p (aC m)) x.a.toNat) alt).2,[mO p (je p m (aP (bP p (aC m)) x.a.toNat) alt).1]⟩] rfl ?_ ?_;{(have e6:AC Tryz.prog T aI 162 [.ptr (.b 0) 1 0 []] (List.map (gq (sig [.b 0] 0)) [mO p m]) (rO m) (List.map (gq (sig [.b 0] 0)) [mO p m]):=by rw [mY];exact QB p m d.g);(have d4:List.map (gq (Ud [.b 0])) (List.map (gq (sig [.b 0] 0)) [mO p m])=[mO p m]:=by rw [mY,mY]);have i:=bQ [.b 0] p m;(have j:jX (bs 1) (List.map (gq (sig [.b 0] 0)) [mO p m]):=by rw [mY];exact bQ _ p m);(have e7:AC Tryz.prog T aI 231 [.ptr (.b 0) 1 0 [],ren (sig [.b 0] 0) (jK (aP (bP p (aC m)) x.a.toNat)),.int alt] (List.map (gq (sig [.b 0] 0)) [mO p m]) (.int (je p m (aP (bP p (aC m)) x.a.toNat) alt).2) [mO p (je p m (aP (bP p (aC m)) x.a.toNat) alt).1]:=by have hz:ren (sig [.b 0] 0) (jK (aP (bP p (aC m)) x.a.toNat))=jK (aP (bP p (aC m)) x.a.toNat):=bY (λq=>by match q with | 0 | 1 | q+2=>rfl);rw [mY,hz];refine VB p m (bP p (aC m)) _ alt d hp (by rw [a0];exact hF) a1.2 y.1 (by rw [t];exact o) (λh1 h2=>?_);have h3:=y.2 h1;rw [wY,h2]at h3;rw [t];simpa using h3);have d5:=bQ (bs 1) p (je p m (aP (bP p (aC m)) x.a.toNat) alt).1;simp only [bP,aC,goI]at b3 a9;exact au};refine sg rfl (rX ?_);(have k:pW p m x alt=((je p m (aP (bP p (aC m)) x.a.toNat) alt).1,(je p m (aP (bP p (aC m)) x.a.toNat) alt).2,-1):=by simp only [pW,f,e];rfl);rw [k];exact aG hT [] (ts:=[(6,.int ((je p m (aP (bP p (aC m)) x.a.toNat) alt).2)),(7,.int (-1))]) (l:=[.int ((je p m (aP (bP p (aC m)) x.a.toNat) alt).2),.int (-1)]) trivial cX ⟨obs rfl (hg:=q0 (ah (iF _ _ _))),tt⟩ rfl rfl rfl};(have b9:x.op≠61:=by simpa using a4);refine sg rfl (cd rfl (λa5=>?_) (λa5=>?_));{(have e:x.op=62:=by simpa using a5);refine rgs [⟨true,[.b 0],.int (jl p m x).2,[mO p (jl p m x).1]⟩] rfl ?_ ?_;{have d3:=h.valid.2.1;(have u:AC Tryz.prog T aI 232 [.ptr (.b 0) 1 0 [],aU x] (List.map (gq (sig [.b 0] 0)) [mO p m]) (.int (jl p m x).2) [mO p (jl p m x).1]:=by rw [mY];exact Wy p m _ x d hp hF (hi (by omega)) e (by rw [t];omega));have i:=bQ [.b 0] p m;have j:=bQ (bs 1) p (jl p m x).1;have hz:ren (sig [.b 0] 0) (aU x)=aU x:=bY (λq=>by match q with | 0 | 1 | 2 | 3 | 4 | q+5=>rfl);rw [<- hz]at u;exact au};refine sg rfl (rX ?_);(have k:pW p m x alt=((jl p m x).1,(aC m).pc+1,(jl p m x).2):=by simp only [pW,f,e];rfl);rw [k];exact aG hT [] (ts:=[(6,.int ((aC m).pc+1)),(7,.int ((jl p m x).2))]) (l:=[.int ((aC m).pc+1),.int ((jl p m x).2)]) trivial cX ⟨obs rfl (hg:=q0 (ah (iF _ _ _))),tt⟩ rfl rfl rfl};(have c0:x.op≠62:=by simpa using a5);refine sg rfl (cd rfl (λa6=>?_) (λa6=>?_));{(have e:x.op=63:=by simpa using a6);have r:=(hi (by omega)).const (by omega);unfold iT at r;refine sq (rgs [] rfl ?_ ?_);{simp [-List.getD_eq_getElem?_getD,ay,under];omega};refine sq (wE [(0,.ptr (.b 0) 1 0 []),(6,.int ((aC m).pc+1)),(7,.int (-1))] [(.b 0,mO p (dJ m (bD (aC m) x.a)))] ⟨obs rfl (hg:=q0 (ah (kQ _ _ _))),tt⟩ ?_);refine drs [CG.pure (.bool (jF m.s m.g (bD (aC m) x.a)))] rfl ?_ ?_;{have u:=F8 m.s m.g (bD (aC m) x.a);exact au};refine cd rfl (λa7=>?_) (λa7=>?_);{(have b0:¬ jF m.s m.g (bD (aC m) x.a)=true:=by simpa using a7);refine rgs [⟨true,[.b 0],.tup [],[mO p (jV (dJ m (bD (aC m) x.a)) 7)]⟩] rfl ?_ ?_;{have u:=wS p (dJ m (bD (aC m) x.a)) 7 (gG d _);have i:=bQ [.b 0] p (dJ m (bD (aC m) x.a));have j:=bQ (bs 1) p (jV (dJ m (bD (aC m) x.a)) 7);exact au};refine sg rfl (rX ?_);(have k:pW p m x alt=(jV (dJ m (bD (aC m) x.a)) 7,(aC m).pc+1,-1):=by simp only [pW,f,e];exact acY (λz=>(z,_,_)) (MC b0));rw [k];exact aG hT [] (ts:=[(6,.int ((aC m).pc+1)),(7,.int (-1))]) (l:=[.int ((aC m).pc+1),.int (-1)]) trivial cX ⟨obs rfl (hg:=q0 (ah (iF _ _ _))),tt⟩ rfl rfl rfl};(have b0:jF m.s m.g (bD (aC m) x.a)=true:=by simpa using a7);refine sk (sq (rg [] rfl ?_));refine rX ?_;(have k:pW p m x alt=(dJ m (bD (aC m) x.a),(aC m).pc+1,-1):=by simp only [pW,f,e];exact acY (λz=>(z,_,_)) (aaW b0));rw [k];exact aG hT [] (ts:=[(6,.int ((aC m).pc+1)),(7,.int (-1))]) (l:=[.int ((aC m).pc+1),.int (-1)]) trivial cX ⟨obs rfl (hg:=q0 (ah (rfl))),tt⟩ rfl rfl rfl};(have c1:x.op≠63:=by simpa using a6);refine sg rfl (cd rfl (λa8=>?_) (λa8=>?_));{(have e:x.op=65:=by simpa using a8);have r:=(hi (by omega)).const (by omega);unfold iT at r;refine rgs [] rfl ?_ ?_;{simp [-List.getD_eq_getElem?_getD,ay,under];omega};refine sg rfl (rX ?_);(have k:pW p m x alt=(dJ m (bD (aC m) x.a),(aC m).pc+1,-1):=by simp only [pW,f,e];rfl);rw [k];exact aG hT [] (ts:=[(6,.int ((aC m).pc+1)),(7,.int (-1))]) (l:=[.int ((aC m).pc+1),.int (-1)]) trivial cX ⟨obs rfl (hg:=q0 (ah (kQ _ _ _))),tt⟩ rfl rfl rfl};(have c2:x.op≠65:=by simpa using a8);refine sk (sq (rg [] rfl ?_));refine rX ?_;(have k:pW p m x alt=(m,(aC m).pc+1,-1):=by rw [pW,MC c6,MC b6,MC b7,MC c3,MC b8,MC b9,MC c0,MC c1,MC c2]);rw [k];exact aG hT [] (ts:=[(6,.int ((aC m).pc+1)),(7,.int (-1))]) (l:=[.int ((aC m).pc+1),.int (-1)]) trivial cX ⟨obs rfl (hg:=q0 (ah (rfl))),tt⟩ rfl rfl rfl
def QY (L:List Int) (x:Int):Int:=if x∈L then (L.findIdx (· == x):Nat)else -1
theorem aam {L:List Int} {x:Int} {i:Nat} (hi:i<L.length) (h:L.getD i 0=x) (hn:∀ j,j<i->L.getD j 0≠x):(i:Int)=QY L x:=by
 have hm:x∈L:=by rw [<- h];simp [aaV,hi]
 rw [QY,aaW hm];congr 1;symm;rw [List.findIdx_eq hi];refine ⟨by simpa [aaV,hi]using h,λj b=>?_⟩;have a:j<L.length:=by omega
 have:=hn j b;simpa [aaV,a]using this
theorem aal {L:List Int} {x:Int} (hn:∀ j,j<L.length->L.getD j 0≠x) : -1=QY L x:=by
 rw [QY,MC];intro hm;obtain ⟨j,a,e⟩:=ad6 hm;exact hn j a (by simpa [aaV,a]using e)
theorem X0 (f:Bool) (L:List Int) (x:Int):AC Tryz.prog T aI 218 [ints f L,.int x] [] (.int (QY L x)) []:=by
 refine aX Tryz.func218 ?_;refine WP.rowlen 0 rfl (λd=>?_);refine sg rfl (sq (sq (rg [] rfl ?_)));refine bk (WP.loop (α:=Nat) (λi=>aN [(0,ints f L),(1,.int x),(7,.int L.length),(8,.int i)] []) (λi=>i<=L.length /\ ∀ j,j<i->L.getD j 0≠x) (λi=>L.length - i) ?_ ?_)
 ·refine ⟨0,?_,?_⟩;{exact ⟨abO _,λj g=>by omega⟩};refine eX cX trivial
 rintro i ⟨hi,hn⟩;refine sg rfl (sq ?_);refine cd rfl (λb=>?_) (λb=>?_);{(have a:i<L.length:=by simpa using b);refine sk (sq (bk (sq (rg [] rfl ?_))));refine sg rfl (cd rfl (λc=>?_) (λc=>?_));{(have he:L.getD i 0=x:=by have e:(x==L.getD i 0)=true:=c;simp at e;exact e.symm);exact sg rfl (WP.ret (bn hT (by rfl) (aam a he hn)))};(have he:L.getD i 0≠x:=by have e:(x==L.getD i 0)=false:=c;simp at e;exact λh=>e h.symm);refine sk (rg [] rfl ?_);refine ⟨i+1,?_,?_,?_⟩;{exact ⟨a,all_succ (Q:=λj=>L.getD j 0≠x) hn he⟩};{refine eX cX trivial};(try simp only []);first | omega | grind};(have a:i=L.length:=by simp at b;omega);subst a;refine xt (sq (rg [] rfl ?_));exact WP.ret (bn hT (by rfl) (aal hn))
theorem Po (f:Bool) (L:List Int) (x:Int):AC Tryz.prog T aI 159 [ints f L,.int x] [] (.bool (decide (x∈L))) []:=by
 refine aX Tryz.func159 ?_;refine sg rfl (sq (rgs [CG.pure (.int (QY L x))] rfl ?_ ?_))
 ·have b:=X0 f L x;exact au
 refine rX ?_;refine fin1 hT (by rfl) ?_;apply decide_eq_decide.2;rw [QY];split
 ·rename_i h;exact ⟨λ_=>h,λ_=>by omega⟩
 rename_i h;exact ⟨λa=>by omega,λa=>absurd a h⟩
def yB (p:aj) (s:bM) (x:aQ):Prop:=(0<=x.go/\x.go<6)/\lF (goI s x.go)=true/\x.alt∈iK p s x.go
instance (p:aj) (s:bM) (x:aQ):Decidable (yB p s x):=by unfold yB;infer_instance
def rQ (p:aj) (m:PM) (next made:Int):PM :=
 if m.over=true then m else if 0<=made then gY p (gY p (eU m { aC m with pc:=next}) m.g) made else gY p (eU m { aC m with pc:=next}) m.g
def nV (p:aj) (s:bM) (x:aQ) (n:Int):PM×Int×Int:=pW p (jD s x.go n) (aW p s x.go) x.alt
def kS (p:aj) (s:bM) (x:aQ) (val:Int):FU:=⟨x.go,(goI s x.go).func,(goI s x.go).pc,(aW p s x.go).op,x.alt,val,if (aW p s x.go).op=65 then (aW p s x.go).n else 0,(dK p s x.go).map BT.t,(dK p s x.go).length⟩
def jE (p:aj) (s:bM) (x:aQ) (n:Int):bM×FU×Int :=
 if lQ p s≠0 then (st0,vN,lQ p s)else if ¬ (0<=n/\n<=4096)then (st0,vN,1)else if ¬ yB p s x then (st0,vN,5)else
 ((rQ p (nV p s x n).1 (nV p s x n).2.1 (nV p s x n).2.2).s,kS p s x (nV p s x n).1.val,0)
theorem zeroE:(T 137).zero=gB vN:=rfl
theorem Vu {l:List MH} {t:MH} (h:l.length<6):(YF l).put [l.length] (sD t)=YF (l++[t]):=bY λj=>by
 show (bif Nat.beq j l.length then _ else _)=_;cases b:Nat.beq j l.length with
 | true =>
  have:=abM b;subst this;simp [aaV];cases t;rfl
 | false =>
  have c:j≠l.length:=λe=>by subst e;simp at b
  simp only [ado];show sD (l.getD j rV)=sD ((l++[t]).getD j rV)
  rcases adf j l.length with a | a
  ·simp only [aaV,acV a]
  ·simp only [aaV,adn (show l.length<=j by omega),adn (show (l++[t]).length<=j by simp;omega)]
theorem SG (e:FU) {t:MH} (h:e.ts.length<6):(gB e).put [7,e.ts.length] (sD t)=gB { e with ts:=e.ts++[t] }:=(dB (ab6 rfl)).trans (acY (λz=>bI 137 [.int e.go,.int e.a,.int e.b,.int e.op,.int e.c,.int e.val,.int e.tag,z,.int e.n]) (Vu h))
theorem Xr (e:FU) (x:Int):(gB e).put [8] (.int x)=gB { e with n:=x}:=dB (ab6 rfl)
theorem Oa (e:FU) (x:Int):(gB e).put [5] (.int x)=gB { e with val:=x}:=dB (ab6 rfl)
theorem Oc (e:FU) (x:Int):(gB e).put [6] (.int x)=gB { e with tag:=x}:=dB (ab6 rfl)
theorem TM (a b c d e:Int):(((((gB vN).put [0] (.int a)).put [1] (.int b)).put [2] (.int c)).put [3] (.int d)).put [4] (.int e)=gB ⟨a,b,c,d,e,0,0,[],0⟩:=by
 rw [show (gB vN).put [0] (.int a)=gB { vN with go:=a}from dB (ab6 rfl),show (gB { vN with go:=a}).put [1] (.int b)=gB { vN with go:=a,a:=b}from dB (ab6 rfl),
  show (gB { vN with go:=a,a:=b}).put [2] (.int c)=gB { vN with go:=a,a:=b,b:=c}from dB (ab6 rfl),show (gB { vN with go:=a,a:=b,b:=c}).put [3] (.int d)=gB { vN with go:=a,a:=b,b:=c,op:=d}from dB (ab6 rfl),
  show (gB { vN with go:=a,a:=b,b:=c,op:=d}).put [4] (.int e)=gB { vN with go:=a,a:=b,b:=c,op:=d,c:=e}from dB (ab6 rfl)];rfl
theorem F5 {p:aj} {s:bM} {g:Int} (h:dX p s g):(dK p s g).length<=5:=by
 have a:=L8 jL (jm (iD p s g)) (jm (iD p s g)).length;have b:(jm (iD p s g)).length=(iD p s g).length:=tN MZ _;have c:=NV h;rw [dK];omega
def nD (p:aj) (s:bM) (x:aQ) (k:Nat):FU:=⟨x.go,(goI s x.go).func,(goI s x.go).pc,(aW p s x.go).op,x.alt,0,0,((dK p s x.go).take k).map BT.t,k⟩
theorem GY {s:bM} (h:mZ s) {g n:Int} (hg:0<=g/\g<6):mX (jD s g n):=⟨h,hg⟩
theorem SK {p:aj} {m:PM} (h:mX m) (x:iG) (alt:Int):mX (pW p m x alt).1:=by
 unfold pW;repeat' split
 ·exact GV h x
 ·exact GX h _ _
 ·exact o8 (o8 (ug h _) _ _) _ _
 ·exact UW h _
 ·exact Oq h _
 ·exact QG h _ _
 ·exact Js h x
 ·exact gG h _
 ·exact wJ (gG h _) _
 ·exact gG h _
 exact h
theorem sU {p:aj} {s:bM} (h:mZ s) (g n:Int):mZ (cO p s g n).1:=by
 unfold cO;split
 ·exact uf
 rename_i b;have b:eG p=true:=by simpa using b
 split
 ·exact uf
 rename_i c;have c:dD p s:=by simpa using c
 split
 ·exact uf
 rename_i hg;split
 ·exact uf
 rename_i hc;split
 ·have a:=(c.2.2.2.2.1 g.toNat (by omega)).1 (by omega)
  have hF:wZ p (bP p (goI s g)):=(kC b).fn _ (by
   rw [bP,aaV,aaT (show (goI s g).func.toNat<p.funcs.length by have d:0<=(goI s g).func/\(goI s g).func<p.funcs.length:=a.2.1;omega)]
   exact acn _)
  exact h.eU (KG hF (g:={ goI s g with status:=1}) ⟨gW h _,a.2.2.1⟩).1.1
 exact h
theorem YG (p:aj) (s:bM) (g n:Int):((((T 263).zero.put [0] (ak p)).put [1] (encS s)).put [2] (.int g)).put [3] (.int n)=jc p (jD s g n):=bY λq=>by match q with | 0 | 1 | 2 | 3 | 4 | 5 | q+6=>rfl
theorem YK (p:aj) (s:bM) (x:aQ) (n:Int) (hs:mZ s):AC Tryz.prog T aI 113 [ak p,encS s,aV x,.int n] [] (.tup [encS (jE p s x n).1,gB (jE p s x n).2.1,.int (jE p s x n).2.2]) []:=by
 refine aX Tryz.func113 ?_;refine sg rfl (sq (sq ?_));refine WP.ent (st':=aN [(4,.rp 26 (ak p)),(5,.rp 62 (encS s)),(6,.rp 122 (aV x)),(3,.int n),(8,.ptr (.s 8 0) 1 0 []),(9,.ptr (.s 9 0) 1 0 [])] [(.s 8 0,.cells ⟨62,1,λ_=>(T 62).zero,0⟩),(.s 9 0,.cells ⟨137,1,λ_=>(T 137).zero,0⟩)]) (em [(.s 4 0,1),(.s 5 0,1),(.s 6 0,1)] ⟨sF,sF,sF,tt⟩ ⟨rq,rq,rq,cq,cq,cq,tt⟩ ⟨obs rfl,obs rfl,tt⟩) ?_;refine rgs [CG.pure (.int (lQ p s))] rfl ?_ ?_
 ·have hq:=IE p s hs;exact au
 refine sg rfl (cd rfl (λh2=>?_) (λh2=>?_))
 ·(have f:lQ p s≠0:=by simpa using h2);refine sg rfl (rX ?_);exact xY hT rfl rfl rfl rfl rfl (ah (by rw [jE,aaW f];exact zeroS)) (ah (by rw [jE,aaW f];exact zeroE)) (by rw [jE,aaW f]) (hno':=qj _)
 (have f:¬ lQ p s≠0:=by simpa using h2);have hv:dD p s:=aaG (by simpa using f);refine sk (sq (sq (rg [] rfl ?_)));refine cd rfl (λh4=>?_) (λh4=>?_);{(have hf:¬ (0<=n/\n<=4096):=by simp only [fE]at h4;simp at h4;omega);refine sg rfl (rX ?_);exact xY hT rfl rfl rfl rfl rfl (ah (by rw [jE,MC f,aaW hf];exact zeroS)) (ah (by rw [jE,MC f,aaW hf];exact zeroE)) (by rw [jE,MC f,aaW hf]) (hno':=qj _)};(have hf:0<=n/\n<=4096:=by simp only [fE]at h4;simp at h4;omega);have i:¬ ¬ (0<=n/\n<=4096):=λh=>h hf;refine sk (sq (sq (drs [CG.pure (.bool (lF (goI s x.go))),CG.pure (ints false (iK p s x.go)),CG.pure (.bool (decide (x.alt∈iK p s x.go)))] rfl ?_ ?_)));{have b5:0<=x.go/\x.go<6->_:=λh=>Gh s x.go h;have b6:0<=x.go/\x.go<6->lF (goI s x.go)=true->_:=λh h'=>TY p s x.go ⟨hs,hv,h',h⟩;have b7:=Po false (iK p s x.go) x.alt;simp only [ay,under,CG.pure];(repeat' with_reducible refine And.intro ?_ ?_);(all_goals (try with_reducible intros));all_goals (first | exact trivial | assumption | exact b7 | (refine b5 ?_;simp_all <;> omega) | (refine b6 ?_ ?_ <;> simp_all <;> omega) | (simp_all;done))};refine cd rfl (λh6=>?_) (λh6=>?_);{(have hp:¬ yB p s x:=by simp only [fE]at h6;intro h;have a:=h.1;have b:=h.2.1;have c:=h.2.2;simp only [goI]at b;rw [show decide (x.go<0)=false from acU (by omega),show decide (x.go>=6)=false from acU (by omega),adg c]at h6;simp [-List.getD_eq_getElem?_getD,b]at h6);refine sg rfl (rX ?_);exact xY hT rfl rfl rfl rfl rfl (ah (by rw [jE,MC f,MC i,aaW hp];exact zeroS)) (ah (by rw [jE,MC f,MC i,aaW hp];exact zeroE)) (by rw [jE,MC f,MC i,aaW hp]) (hno':=qj _)};(have hp:yB p s x:=by simp only [fE]at h6;simp [-List.getD_eq_getElem?_getD]at h6;exact ⟨by omega,by simp_all,by simp_all⟩);have a4:¬ ¬ yB p s x:=λh=>h hp;have o:dX p s x.go:=⟨hs,hv,hp.2.1,hp.1⟩;have b4:=hp.1;refine sk (sq (rgs [CG.pure (aU (aW p s x.go))] rfl ?_ ?_));{have hq:=TV p s x.go o;exact au};refine sq (drs [] rfl ?_ ?_);{simp [-List.getD_eq_getElem?_getD,ay,under];omega};refine sq (sq ?_);refine wQ [(.s 12 0,1)] [(3,.int n),(4,.rp 26 (ak p)),(5,.rp 62 (encS s)),(6,.rp 122 (aV x)),(8,.ptr (.s 8 0) 1 0 []),(9,.ptr (.s 9 0) 1 0 []),(12,.rp 120 (aU (aW p s x.go))),(13,.ptr (.s 13 0) 1 0 [])] [(.s 8 0,.cells ⟨62,1,λ_=>(T 62).zero,0⟩),(.s 9 0,.cells ⟨137,1,λ_=>(T 137).zero,0⟩),(.s 13 0,.cells ⟨137,1,λ_=>gB (nD p s x 0),0⟩)] ⟨obs rfl,obs rfl,obs rfl (hg:=q0 (ah (TM _ _ _ _ _))),tt⟩ (rgs [CG.pure (rowP 134 fD jL (dK p s x.go))] rfl ?_ ?_);{have hq:=MV p s x.go o;exact au};refine bk (WP.loop (α:=Nat) (λk=>aN [(3,.int n),(4,.rp 26 (ak p)),(5,.rp 62 (encS s)),(6,.rp 122 (aV x)),(8,.ptr (.s 8 0) 1 0 []),(9,.ptr (.s 9 0) 1 0 []),(12,.rp 120 (aU (aW p s x.go))),(13,.ptr (.s 13 0) 1 0 []),(91,rowP 134 fD jL (dK p s x.go)),(92,.int (dK p s x.go).length),(93,.int k)] [(.s 8 0,.cells ⟨62,1,λ_=>(T 62).zero,0⟩),(.s 9 0,.cells ⟨137,1,λ_=>(T 137).zero,0⟩),(.s 13 0,.cells ⟨137,1,λ_=>gB (nD p s x k),0⟩)]) (λk=>k<=(dK p s x.go).length) (λk=>(dK p s x.go).length - k) ?_ ?_);{refine ⟨0,?_,?_⟩;{exact abO _};refine eX cX ⟨obs rfl,obs rfl,obs rfl,tt⟩};rintro k hk;have c4:=F5 o;refine sg rfl (sq ?_);refine cd rfl (λu=>?_) (λu=>?_);{(have l:k<(dK p s x.go).length:=by simp [-List.getD_eq_getElem?_getD]at u;omega);(have b8:(nD p s x k).ts.length=k:=by show (((dK p s x.go).take k).map BT.t).length=k;rw [adN,adh];omega);refine sk (sq (bk (sq (rgs [] rfl ?_ ?_))));{simp [-List.getD_eq_getElem?_getD,ay,under];omega};refine sq (rgs [] rfl ?_ ?_);{(have a2:0<=(nD p s x k).n/\(nD p s x k).n<6:=by show 0<=(k:Int)/\(k:Int)<6;omega);simp only [ay,under,CG.pure];(repeat' with_reducible refine And.intro ?_ ?_);(all_goals (try with_reducible intros));all_goals (first | exact trivial | assumption | omega | exact a2 | exact a2.1 | exact a2.2 | (simp;done) | grind)};refine wE [(3,.int n),(4,.rp 26 (ak p)),(5,.rp 62 (encS s)),(6,.rp 122 (aV x)),(8,.ptr (.s 8 0) 1 0 []),(9,.ptr (.s 9 0) 1 0 []),(12,.rp 120 (aU (aW p s x.go))),(13,.ptr (.s 13 0) 1 0 []),(91,rowP 134 fD jL (dK p s x.go)),(92,.int (dK p s x.go).length),(93,.int k)] [(.s 8 0,.cells ⟨62,1,λ_=>(T 62).zero,0⟩),(.s 9 0,.cells ⟨137,1,λ_=>(T 137).zero,0⟩),(.s 13 0,.cells ⟨137,1,λ_=>gB { nD p s x k with ts:=(nD p s x k).ts++[((dK p s x.go).getD k jL).t] },0⟩)] ⟨obs rfl,obs rfl,obs rfl (hg:=q0 (ah ((acY (λz:Nat=>(gB (nD p s x k)).put [7,z] (sD ((dK p s x.go).getD k jL).t)) (show ((nD p s x k).n).toNat=(nD p s x k).ts.length by rw [b8];exact ac9 k)).trans (SG (nD p s x k) (by omega))))),tt⟩ (rg [] rfl ?_);refine rg [] rfl ?_;(have e2:gB { nD p s x k with ts:=(nD p s x k).ts++[((dK p s x.go).getD k jL).t],n:=(k:Int)+1}=gB (nD p s x (k+1)):=by(have e3:(nD p s x k).ts++[((dK p s x.go).getD k jL).t]=(nD p s x (k+1)).ts:=by show ((dK p s x.go).take k).map BT.t++_=((dK p s x.go).take (k+1)).map BT.t;rw [adY,aaT l,List.map_append];simp [l]);rw [e3];rfl);have hw:IntKind.i64.wrap ((nD p s x k).n+1)=(k:Int)+1:=bK (by show _<=(k:Int)+1;omega) (by show (k:Int)+1<_;omega);refine ⟨k+1,?_,?_,?_⟩;{exact l};{refine eX cX ⟨obs rfl,obs rfl,obs rfl (hg:=q0 (ah ((acY (λz:Int=>(gB { nD p s x k with ts:=(nD p s x k).ts++[((dK p s x.go).getD k jL).t] }).put [8] (.int z)) hw).trans ((Xr _ _).trans e2)))),tt⟩};(try simp only []);first | omega | grind};(have l:k=(dK p s x.go).length:=by simp [-List.getD_eq_getElem?_getD]at u;omega);obtain ⟨d,j⟩:∃ d,nV p s x n=d:=⟨_,rfl⟩;(have e:mX d.1:=by rw [<- j];exact SK (GY hs b4) _ _);refine xt (sq (rg [] rfl ?_));refine sq (wE [(4,.rp 26 (ak p)),(5,.rp 62 (encS s)),(6,.rp 122 (aV x)),(8,.ptr (.s 8 0) 1 0 []),(9,.ptr (.s 9 0) 1 0 []),(12,.rp 120 (aU (aW p s x.go))),(13,.ptr (.s 13 0) 1 0 []),(16,.ptr (.s 113 0) 1 0 [])] [(.s 8 0,.cells ⟨62,1,λ_=>(T 62).zero,0⟩),(.s 9 0,.cells ⟨137,1,λ_=>(T 137).zero,0⟩),(.s 13 0,.cells ⟨137,1,λ_=>gB (nD p s x k),0⟩),(.s 113 0,mO p (jD s x.go n))] ⟨obs rfl,obs rfl,obs rfl,obs rfl (hg:=q0 (ah (YG p s x.go n))),tt⟩ ?_);refine rgs [⟨true,[.s 113 0],.tup [.int d.2.1,.int d.2.2],[mO p d.1]⟩] rfl ?_ ?_;{(have hq:AC Tryz.prog T aI 161 [.ptr (.b 0) 1 0 [],ren (sig [.s 113 0] 0) (aU (aW p s x.go)),.int x.alt] (List.map (gq (sig [.s 113 0] 0)) [mO p (jD s x.go n)]) (.tup [.int d.2.1,.int d.2.2]) [mO p d.1]:=by have hz:ren (sig [.s 113 0] 0) (aU (aW p s x.go))=aU (aW p s x.go):=bY (λq=>by match q with | 0 | 1 | 2 | 3 | 4 | q+5=>rfl);rw [mY,hz,<- j];exact ab4 p s x.go n x.alt o hp.2.2);have a0:=bQ [.s 113 0] p (jD s x.go n);have a1:=bQ (bs 1) p d.1;exact au};refine sq (wE [(8,.ptr (.s 8 0) 1 0 []),(9,.ptr (.s 9 0) 1 0 []),(12,.rp 120 (aU (aW p s x.go))),(13,.ptr (.s 13 0) 1 0 []),(16,.ptr (.s 113 0) 1 0 []),(17,.int d.2.1),(18,.int d.2.2)] [(.s 8 0,.cells ⟨62,1,λ_=>(T 62).zero,0⟩),(.s 9 0,.cells ⟨137,1,λ_=>(T 137).zero,0⟩),(.s 13 0,.cells ⟨137,1,λ_=>gB (nD p s x k),0⟩),(.s 113 0,mO p d.1)] ⟨obs rfl,obs rfl,obs rfl,obs rfl (hg:=q0 (ah (iF _ _ _))),tt⟩ ?_);refine rg [] rfl (WP.seqJ (α:=Unit) (λ_=>aN [(8,.ptr (.s 8 0) 1 0 []),(9,.ptr (.s 9 0) 1 0 []),(13,.ptr (.s 13 0) 1 0 []),(16,.ptr (.s 113 0) 1 0 []),(17,.int d.2.1),(18,.int d.2.2)] [(.s 8 0,.cells ⟨62,1,λ_=>(T 62).zero,0⟩),(.s 9 0,.cells ⟨137,1,λ_=>(T 137).zero,0⟩),(.s 13 0,.cells ⟨137,1,λ_=>gB (kS p s x d.1.val),0⟩),(.s 113 0,mO p d.1)]) (λ_=>True) ?_ ?_);{refine sq ?_;(have ee:∀ t:Int,gB { nD p s x k with val:=d.1.val,tag:=t}=gB ⟨x.go,(goI s x.go).func,(goI s x.go).pc,(aW p s x.go).op,x.alt,d.1.val,t,(dK p s x.go).map BT.t,(dK p s x.go).length⟩:=λt=>by rw [nD,l,adJ]);refine wE [(8,.ptr (.s 8 0) 1 0 []),(9,.ptr (.s 9 0) 1 0 []),(12,.rp 120 (aU (aW p s x.go))),(13,.ptr (.s 13 0) 1 0 []),(16,.ptr (.s 113 0) 1 0 []),(17,.int d.2.1),(18,.int d.2.2)] [(.s 8 0,.cells ⟨62,1,λ_=>(T 62).zero,0⟩),(.s 9 0,.cells ⟨137,1,λ_=>(T 137).zero,0⟩),(.s 13 0,.cells ⟨137,1,λ_=>gB { nD p s x k with val:=d.1.val},0⟩),(.s 113 0,mO p d.1)] ⟨obs rfl,obs rfl,obs rfl (hg:=q0 (ah (Oa _ _))),obs rfl,tt⟩ (rg [] rfl ?_);refine cd rfl (λv=>?_) (λv=>?_);{(have r:(aW p s x.go).op=65:=by simpa using v);refine rg [] rfl ⟨(),?_,?_⟩;{trivial};refine eX cX ⟨obs rfl,obs rfl,obs rfl (hg:=q0 (ah ((Oc _ _).trans ((ee _).trans (by rw [kS,aaW r]))))),obs rfl,tt⟩};(have r:¬ (aW p s x.go).op=65:=by simpa using v);refine sk ⟨(),?_,?_⟩;{trivial};refine eX cX ⟨obs rfl,obs rfl,obs rfl (hg:=q0 (ah ((ee 0).trans (by rw [kS,MC r])))),obs rfl,tt⟩};rintro _ b2;refine sq (sq ?_);(have b3:d.1.g.toNat<d.1.s.gos.length:=by rw [e.s.gos];have:=e.g;omega);refine rg [] rfl (cd rfl (λw=>?_) (λw=>?_));{(have m:¬ d.1.over=true:=by simpa using w);refine sq (rgs [⟨true,[.s 113 0],.ptr (.b 0) 1 0 [1,3,d.1.g.toNat],[mO p d.1]⟩] rfl ?_ ?_);{(have hq:AC Tryz.prog T aI 162 [.ptr (.b 0) 1 0 []] (List.map (gq (sig [.s 113 0] 0)) [mO p d.1]) (rO d.1) [mO p d.1]:=by rw [mY];exact QB p d.1 e.g);have a0:=bQ [.s 113 0] p d.1;have a1:=bQ (bs 1) p d.1;exact au};refine sq (wE [(8,.ptr (.s 8 0) 1 0 []),(9,.ptr (.s 9 0) 1 0 []),(13,.ptr (.s 13 0) 1 0 []),(16,.ptr (.s 113 0) 1 0 []),(18,.int d.2.2)] [(.s 8 0,.cells ⟨62,1,λ_=>(T 62).zero,0⟩),(.s 9 0,.cells ⟨137,1,λ_=>(T 137).zero,0⟩),(.s 13 0,.cells ⟨137,1,λ_=>gB (kS p s x d.1.val),0⟩),(.s 113 0,mO p (eU d.1 { aC d.1 with pc:=d.2.1}))] ⟨obs rfl,obs rfl,obs rfl,obs rfl (hg:=q0 (ah ((acY (λz=>AV.put z [1,3,d.1.g.toNat,2] (.int d.2.1)) (iF _ _ _)).trans (N8 b3 (qg _ _))))),tt⟩ ?_);refine rgs [⟨true,[.s 113 0],.tup [],[mO p (gY p (eU d.1 { aC d.1 with pc:=d.2.1}) d.1.g)]⟩] rfl ?_ ?_;{(have hq:AC Tryz.prog T aI 163 [.ptr (.b 0) 1 0 [],.int d.1.g] (List.map (gq (sig [.s 113 0] 0)) [mO p (eU d.1 { aC d.1 with pc:=d.2.1})]) (.tup []) [mO p (gY p (eU d.1 { aC d.1 with pc:=d.2.1}) d.1.g)]:=by rw [mY];exact Hf p _ _ (e.s.eU (x:={ aC d.1 with pc:=d.2.1}) (gW e.s _)));have a0:=bQ [.s 113 0] p (eU d.1 { aC d.1 with pc:=d.2.1});have a1:=bQ (bs 1) p (gY p (eU d.1 { aC d.1 with pc:=d.2.1}) d.1.g);exact au};refine sq (wE [(8,.ptr (.s 8 0) 1 0 []),(9,.ptr (.s 9 0) 1 0 []),(13,.ptr (.s 13 0) 1 0 []),(16,.ptr (.s 113 0) 1 0 []),(18,.int d.2.2)] [(.s 8 0,.cells ⟨62,1,λ_=>(T 62).zero,0⟩),(.s 9 0,.cells ⟨137,1,λ_=>(T 137).zero,0⟩),(.s 13 0,.cells ⟨137,1,λ_=>gB (kS p s x d.1.val),0⟩),(.s 113 0,mO p (gY p (eU d.1 { aC d.1 with pc:=d.2.1}) d.1.g))] ⟨obs rfl,obs rfl,obs rfl,obs rfl (hg:=q0 (ah (iF _ _ _))),tt⟩ ?_);refine rg [] rfl (cd rfl (λy=>?_) (λy=>?_));{have a3:0<=d.2.2:=aeb y;refine rgs [⟨true,[.s 113 0],.tup [],[mO p (gY p (gY p (eU d.1 { aC d.1 with pc:=d.2.1}) d.1.g) d.2.2)]⟩] rfl ?_ ?_;{(have hq:AC Tryz.prog T aI 163 [.ptr (.b 0) 1 0 [],.int d.2.2] (List.map (gq (sig [.s 113 0] 0)) [mO p (gY p (eU d.1 { aC d.1 with pc:=d.2.1}) d.1.g)]) (.tup []) [mO p (gY p (gY p (eU d.1 { aC d.1 with pc:=d.2.1}) d.1.g) d.2.2)]:=by rw [mY];exact Hf p _ _ (sU (e.s.eU (x:={ aC d.1 with pc:=d.2.1}) (gW e.s _)) _ _));have a0:=bQ [.s 113 0] p (gY p (eU d.1 { aC d.1 with pc:=d.2.1}) d.1.g);have a1:=bQ (bs 1) p (gY p (gY p (eU d.1 { aC d.1 with pc:=d.2.1}) d.1.g) d.2.2);exact au};refine sq (dr [] rfl ?_);refine rX ?_;(have er:rQ p d.1 d.2.1 d.2.2=gY p (gY p (eU d.1 { aC d.1 with pc:=d.2.1}) d.1.g) d.2.2:=by rw [rQ,MC m,aaW a3]);(have ed:jE p s x n=((gY p (gY p (eU d.1 { aC d.1 with pc:=d.2.1}) d.1.g) d.2.2).s,kS p s x d.1.val,0):=by rw [jE,MC f,MC i,MC a4,j,er]);rw [ed];exact xY hT rfl rfl rfl rfl rfl (ah (vY _ _)) (ah rfl) rfl (hno':=qj _)};have a3:¬ 0<=d.2.2:=aeC y;refine sk (sq (dr [] rfl ?_));refine rX ?_;(have er:rQ p d.1 d.2.1 d.2.2=gY p (eU d.1 { aC d.1 with pc:=d.2.1}) d.1.g:=by rw [rQ,MC m,MC a3]);(have ed:jE p s x n=((gY p (eU d.1 { aC d.1 with pc:=d.2.1}) d.1.g).s,kS p s x d.1.val,0):=by rw [jE,MC f,MC i,MC a4,j,er]);rw [ed];exact xY hT rfl rfl rfl rfl rfl (ah (rfl)) (ah rfl) rfl (hno':=qj _)};(have m:d.1.over=true:=by simpa using w);refine sk (sq (dr [] rfl ?_));refine rX ?_;(have er:rQ p d.1 d.2.1 d.2.2=d.1:=by rw [rQ,aaW m]);(have ed:jE p s x n=((d.1).s,kS p s x d.1.val,0):=by rw [jE,MC f,MC i,MC a4,j,er]);rw [ed];exact xY hT rfl rfl rfl rfl rfl (ah (rfl)) (ah rfl) rfl (hno':=qj _)
structure fA where
 steps:Int
 fuel:Int
 runs:Int
def cZ (b:fA):AV:=bI 28 [.int b.steps,.int b.fuel,.int b.runs]
def vP (b:fA):Prop:=(0<=b.steps/\b.steps<=256)/\(0<=b.fuel/\b.fuel<=4096)/\(0<=b.runs/\b.runs<=65536)
instance (b:fA):Decidable (vP b):=by unfold vP;infer_instance
def inB (n m:Int):Bool:=decide (0<=n/\n<=m)
theorem Ia (n m:Int):AC Tryz.prog T aI 112 [.int n,.int m] [] (.bool (inB n m)) []:=by
 refine aX Tryz.func112 ?_;refine sg rfl (sg rfl ?_);refine rX ?_;refine fin1 hT (by rfl) ?_;simp only [band];rw [inB,acC];simp
def dU (p:aj) (n:Int) (b:fA):Int:=if eG p=false then 3 else if 256<n then 2 else if ¬ vP b then 6 else 0
theorem Sm (p:aj) (n:Int) (b:fA):AC Tryz.prog T aI 66 [ak p,.int n,cZ b] [] (.int (dU p n b)) []:=by
 refine aX Tryz.func66 ?_;refine sg rfl (sq (sq ?_));refine WP.ent (st':=aN [(3,.rp 26 (ak p)),(5,.rp 28 (cZ b)),(1,.int n)] []) (em [(.s 3 0,1),(.s 5 0,1)] ⟨sF,sF,tt⟩ ⟨rq,rq,cq,tt⟩ trivial) ?_;refine rgs [CG.pure (zl p)] rfl ?_ ?_
 ·have m:=DR p;exact au
 refine sg rfl (cd rfl (λe=>?_) (λe=>?_))
 ·(have g:eG p=false:=by simp at e;simp [eG];exact e);exact sg rfl (WP.ret (bn hT (by rfl) (by rw [dU,aaW g])))
 (have g:¬ eG p=false:=by simp at e;simp [eG];exact e);refine sk (sq (sq (rg [] rfl ?_)));refine cd rfl (λi=>?_) (λi=>?_);{(have hn:256<n:=by simpa using i);exact sg rfl (WP.ret (bn hT (by rfl) (by rw [dU,MC g,aaW hn])))};(have hn:¬ 256<n:=by simp at i;omega);refine sk (sq (rg [] rfl ?_));refine sq (sq (rgs [CG.pure (.bool (inB b.steps 256)),CG.pure (.bool (inB b.fuel 4096)),CG.pure (.bool (inB b.runs 65536))] rfl ?_ ?_));{have j:=Ia b.steps 256;have k:=Ia b.fuel 4096;have l:=Ia b.runs 65536;exact au};refine cd rfl (λf=>?_) (λf=>?_);{(have hb:¬ vP b:=by simp only [fE,inB]at f;intro ⟨a,c,d⟩;simp at f;omega);exact sg rfl (WP.ret (bn hT (by rfl) (by rw [dU,MC g,MC hn,aaW hb])))};have hb:¬ ¬ vP b:=λh=>h (by simp only [fE,inB]at f;simp at f;exact ⟨by omega,by omega,by omega⟩);refine sk (sq (rg [] rfl ?_));exact WP.ret (bn hT (by rfl) (by rw [dU,MC g,MC hn,MC hb]))
theorem EH {p:aj} {n:Int} {b:fA} (h:dU p n b=0):eG p=true/\n<=256/\vP b:=by
 unfold dU at h;split at h
 ·cases h
 rename_i a;split at h
 ·cases h
 rename_i d;split at h
 ·cases h
 rename_i c;exact ⟨by simpa using a,by omega,by simpa using c⟩
theorem Xb (x:aQ) (n:Int):AC Tryz.prog T aI 175 [aV x,.rp 3 (.int n)] [] (.bool (x.go==n)) []:=by
 refine aX Tryz.func175 ?_;refine sg rfl (sg rfl ?_);exact WP.ret (fin1 hT (by rfl) rfl)
def ny (l:List aQ) (n:Int):Int:=if l.any (λx=>x.go==n)then (l.findIdx (λx=>x.go==n):Nat)else -1
theorem Yk {l:List aQ} {n:Int} {i:Nat} (hi:i<l.length) (h:((l.getD i dF).go==n)=true) (hn:∀ j,j<i->((l.getD j dF).go==n)=false):ny l n=i:=by
 have e:l.getD i dF=l[i]:=by simp [hi]
 have hm:l.any (λx=>x.go==n)=true:=List.any_eq_true.2 ⟨l[i],acn hi,by rw [<- e];exact h⟩;rw [ny,aaW hm];congr 1;rw [List.findIdx_eq hi];refine ⟨by rw [<- e];exact h,λj b=>?_⟩;have:=hn j b;have a:j<l.length:=by omega
 rwa [aaV,aaT a]at this
theorem Yi {l:List aQ} {n:Int} (hn:∀ j,j<l.length->((l.getD j dF).go==n)=false):ny l n = -1:=by
 rw [ny,MC];rw [aei];rintro ⟨x,hx,h⟩;obtain ⟨j,a,e⟩:=ad6 hx;have:=hn j a;rw [aaV,aaT a,adr,e]at this;rw [this]at h;cases h
abbrev uJ (n:Int):Ob := .cells ⟨3,1,λ_ => .int n,0⟩
theorem UD (g:Bool) (l:List aQ) (n:Int):AC Tryz.prog T aI 174 [.row 122 g l.length (λi=>aV (l.getD i dF)),.clo 175 [.ptr (.b 0) 1 0 []]] [uJ n] (.int (ny l n)) [uJ n]:=by
 refine aX Tryz.func174 ?_;refine WP.rowlen 0 rfl (λhl=>?_);refine sg rfl (sq (sq (rg [] rfl ?_)));refine bk (WP.loop (α:=Nat) (λi=>aN [(0,.row 122 g l.length (λi=>aV (l.getD i dF))),(1,.clo 175 [.ptr (.b 0) 1 0 []]),(7,.int l.length),(8,.int i)] [(.b 0,uJ n)]) (λi=>i<=l.length /\ ∀ j,j<i->((l.getD j dF).go==n)=false) (λi=>l.length - i) ?_ ?_)
 ·refine ⟨0,?_,?_⟩;{exact ⟨abO _,λj h=>by omega⟩};refine eX cX ⟨obs rfl,tt⟩
 rintro i ⟨hi,hn⟩;refine sg rfl (sq ?_);refine cd rfl (λd=>?_) (λd=>?_);{(have c:i<l.length:=by simpa using d);refine sk (sq (bk (sq (rg [] rfl ?_))));refine sq (rgs [CG.pure (.bool ((l.getD i dF).go==n))] rfl ?_ ?_);{have f:=Xb (l.getD i dF) n;(have a:0<=(i:Int)/\(i:Int)<(l.length:Int):=by omega);simp only [ay,under,CG.pure];(repeat' with_reducible refine And.intro ?_ ?_);(all_goals (try with_reducible intros));all_goals (first | exact trivial | assumption | omega | exact f | exact a | exact a.1 | exact a.2 | exact rfl | (simp;done) | grind)};refine cd rfl (λe=>?_) (λe=>?_);{refine sg rfl (rX ?_);refine aG hT [] (ts:=[(4,.int (ny l n))]) (l:=[.int (ny l n)]) trivial ⟨⟨rfl,_,rfl,ah (acY AV.int (Yk c e hn).symm)⟩,tt⟩ ⟨obs rfl,tt⟩ rfl rfl rfl};refine sk (rg [] rfl ?_);refine ⟨i+1,?_,?_,?_⟩;{exact ⟨c,all_succ (Q:=λj=>((l.getD j dF).go==n)=false) hn e⟩};{refine eX cX ⟨obs rfl,tt⟩};(try simp only []);first | omega | grind};(have c:i=l.length:=by simp at d;omega);subst c;refine xt (sq (rg [] rfl ?_));refine rX ?_;refine aG hT [] (ts:=[(4,.int (ny l n))]) (l:=[.int (ny l n)]) trivial ⟨⟨rfl,_,rfl,ah (acY AV.int (Yi hn).symm)⟩,tt⟩ ⟨obs rfl,tt⟩ rfl rfl rfl
def yT (l:List aQ):Nat->Int->aQ×Int
 | 0,n=>(dF,n)
 | k+1,n=>if 0<=ny l ((n+1) % 6)then (l.getD (ny l ((n+1) % 6)).toNat dF,((n+1) % 6))else yT l k ((n+1) % 6)
theorem Sv (l:List aQ):∀ (k:Nat) (n:Int),0<=n/\n<6->0<=(yT l k n).2/\(yT l k n).2<6
 | 0,n,h=>h
 | k+1,n,h=>by(have a:0<=((n+1) % 6)/\((n+1) % 6)<6:=by omega);rw [yT];split;{exact a};exact Sv l k _ a
theorem Vk {l:List aQ} {n:Int} {x:aQ} (hx:x∈l) (h:x.go=n):0<=ny l n:=by
 have hm:l.any (λx=>x.go==n)=true:=List.any_eq_true.2 ⟨x,hx,beq_iff_eq.2 h⟩;rw [ny,aaW hm];omega
theorem Yj {l:List aQ} {n:Int} (h:0<=ny l n):(ny l n).toNat<l.length:=by
 unfold ny at h ⊢;split at h
 ·rename_i hm;rw [aaW hm,ac9];obtain ⟨x,hx,hp⟩:=List.any_eq_true.1 hm;exact List.findIdx_lt_length_of_exists ⟨x,hx,hp⟩
 omega
theorem UC (i:Int) (l:List aQ) (n:Int) (hn:0<=n/\n<6) (hl:l≠[]) (hg:∀ x∈l,0<=x.go/\x.go<6):AC Tryz.prog T aI 173 [.int i,cu l,.ptr (.b 0) 1 0 []] [uJ n] (.tup [aV (yT l 6 n).1,.bool true]) [uJ (yT l 6 n).2]:=by
 refine aX Tryz.func173 ?_;refine WP.rowlen 1 rfl (λp=>?_);refine sg rfl (bk ?_);refine WP.loop (α:=Nat×Int) (λ(⟨k,m⟩:Nat×Int)=>aN [(1,cu l),(2,.ptr (.b 0) 1 0 []),(5,.ptr (.s 5 0) 1 0 [])] [(.b 0,uJ m),(.s 5 0,.cells ⟨122,1,λ_=>aV dF,0⟩)]) (λ(⟨k,m⟩:Nat×Int)=>yT l k m=yT l 6 n/\(0<=m/\m<6) /\ ∃ x∈l,∃ j:Nat,j<k/\x.go=(m+1+j) % 6) (λ(⟨k,m⟩:Nat×Int)=>k) ?_ ?_
 ·refine ⟨⟨6,n⟩,?_,?_⟩;{obtain ⟨x,hx⟩:=List.exists_mem_of_ne_nil l hl;have:=hg x hx;refine ⟨rfl,hn,x,hx,((x.go - n - 1) % 6).toNat,by omega,by omega⟩};refine eX cX ⟨obs rfl,obs rfl,tt⟩
 rintro ⟨k,m⟩ ⟨e,hm,x,hx,j,u,r⟩;obtain ⟨k,rfl⟩:∃ t,k=t+1:=⟨k - 1,by omega⟩;have hw:IntKind.i64.wrap (m+1)=m+1:=bK (by omega) (by omega);(have d:0<=((m+1) % 6)/\((m+1) % 6)<6:=by omega);refine bk (sq (rg [] rfl ?_));refine sq (wE [(1,cu l),(2,.ptr (.b 0) 1 0 []),(5,.ptr (.s 5 0) 1 0 [])] [(.b 0,uJ ((m+1) % 6)),(.s 5 0,.cells ⟨122,1,λ_=>aV dF,0⟩)] ⟨obs rfl (hg:=q0 (ah ((acY (λz:Int=>AV.int (z.tmod 6)) hw).trans (acY AV.int (Int.tmod_eq_emod_of_nonneg (by omega)))))),obs rfl,tt⟩ ?_);refine rgs [⟨true,[.b 0],.int (ny l ((m+1) % 6)),[uJ ((m+1) % 6)]⟩] rfl ?_ ?_;{have v:=UD false l ((m+1) % 6);have h:jX [.b 0] [uJ ((m+1) % 6)]:=⟨λ_ _=>rfl,tt⟩;have o:jX (bs 1) [uJ ((m+1) % 6)]:=⟨λ_ _=>rfl,tt⟩;exact au};refine sg rfl (cd rfl (λc=>?_) (λc=>?_));{(have hp:0<=ny l ((m+1) % 6):=by simpa using c);have q:=Yj hp;refine sq (rgs [] rfl ?_ ?_);{(have a:0<=ny l ((m+1) % 6)/\ny l ((m+1) % 6)<(l.length:Int):=by omega);simp only [ay,under,CG.pure];(repeat' with_reducible refine And.intro ?_ ?_);(all_goals (try with_reducible intros));all_goals (first | exact trivial | assumption | omega | exact a | exact a.1 | exact a.2 | (simp;done) | grind)};refine rX ?_;(have f:yT l 6 n=(l.getD (ny l ((m+1) % 6)).toNat dF,((m+1) % 6)):=by rw [<- e,yT,aaW hp]);rw [f];refine aG hT [(.s 5 0,1)] (ts:=[(5,.rp 122 (aV (l.getD (ny l ((m+1) % 6)).toNat dF))),(6,.bool true)]) (l:=[aV (l.getD (ny l ((m+1) % 6)).toNat dF),.bool true]) ⟨sF,tt⟩ ⟨⟨rfl,_,rfl,rpv (hF:=by simp [dO,aT])⟩,cq,tt⟩ ⟨obs rfl,tt⟩ rfl rfl rfl};(have hp:¬ 0<=ny l ((m+1) % 6):=by simpa using c);refine sk ⟨⟨k,((m+1) % 6)⟩,?_,?_,?_⟩;{rw [yT,MC hp]at e;refine ⟨e,d,x,hx,?_⟩;rcases aeO j with g | g;{exact absurd (Vk hx (by omega)) hp};exact ⟨j - 1,by omega,by omega⟩};{refine eX cX ⟨obs rfl,obs rfl,tt⟩};(try simp only []);first | omega | grind
theorem Pm {p:aj} {s:bM} {x:aQ} {n:Int} (h:mZ s):mZ (jE p s x n).1:=by
 unfold jE;split
 ·exact uf
 split
 ·exact uf
 split
 ·exact uf
 rename_i hp;have hp:yB p s x:=by simpa using hp
 have a:mX (nV p s x n).1:=SK (GY h hp.1) _ _;have b:mZ (eU (nV p s x n).1 { aC (nV p s x n).1 with pc:=(nV p s x n).2.1}).s:=a.s.eU (x:={ aC (nV p s x n).1 with pc:=(nV p s x n).2.1}) (gW a.s _);show mZ (rQ p _ _ _).s;unfold rQ;split
 ·exact a.s
 split
 ·exact sU (sU b _ _) _ _
 exact sU b _ _
theorem vU {p:aj} {n:Int}:mZ (aK p n).1:=by
 unfold aK;split
 ·exact uf
 rename_i b;split
 ·exact uf
 have hp:=kC (by simpa using b);have hF:wZ p (aY p 0):=hp.fn _ (by rw [aY,aaV,aaT (show 0<p.funcs.length by have:=hp.funcs;omega)];exact acn _);refine ⟨AP _ _,rfl,rfl,rfl,uf.ch,λg hg=>?_⟩;rcases List.mem_cons.1 hg with a | a
 ·rw [a];exact (KG hF (Yc hp)).1.1
 exact uf.go g (adv _ a)
theorem NR {p:aj} {s:bM} {x:aQ} (h:x∈aO p s):x.go∈iw s/\x.alt∈iK p s x.go/\lQ p s=0:=by
 unfold aO at h;split at h
 ·rename_i e;obtain ⟨g,b,c⟩:=List.mem_flatMap.1 h;obtain ⟨a,d,rfl⟩:=List.mem_map.1 c;exact ⟨b,d,e⟩
 cases h
theorem Xo {p:aj} {s:bM} {x:aQ} (h:x∈aO p s):0<=x.go/\x.go<6:=by
 obtain ⟨j,a,b,_⟩:=qU.1 (NR h).1;omega
def pz (p:aj) (n:Int):Nat->bM->Int->List aQ×Int
 | 0,s,m=>([],m)
 | k+1,s,m=>if aO p s=[]then ([],m)else
  ((yT (aO p s) 6 m).1::(pz p n k (jE p s (yT (aO p s) 6 m).1 n).1 (yT (aO p s) 6 m).2).1,(pz p n k (jE p s (yT (aO p s) 6 m).1 n).1 (yT (aO p s) 6 m).2).2)
theorem Gu (a:Id->Id) (x:aQ):ren a (aV x)=aV x:=bY (λq=>by match q with | 0 | 1 | q+2=>rfl)
theorem PD (p:aj) (b:fA) (n:Int) (hn:0<=n/\n<6) (hb:0<=b.steps/\b.steps<=256):AC Tryz.prog T aI 67 [ak p,cZ b,.clo 173 [.ptr (.b 0) 1 0 []]] [uJ n] (cu (pz p b.fuel b.steps.toNat (aK p b.fuel).1 n).1) [uJ (pz p b.fuel b.steps.toNat (aK p b.fuel).1 n).2]:=by
 refine aX Tryz.func67 ?_;refine sg rfl (sq ?_);refine wQ [(.s 3 0,1),(.s 4 0,1)] [(2,.clo 173 [.ptr (.b 0) 1 0 []]),(3,.rp 26 (ak p)),(4,.rp 28 (cZ b))] [(.b 0,uJ n)] ⟨obs rfl,tt⟩ (rgs [CG.pure (.tup [encS (aK p b.fuel).1,.int (aK p b.fuel).2])] rfl ?_ ?_)
 ·have d:=Bl p b.fuel;exact au
 refine sg rfl (sq (bk ?_));refine WP.loop (α:=List aQ×bM×Int) (λ(⟨acc,s,m⟩:List aQ×bM×Int)=>aN [(2,.clo 173 [.ptr (.b 0) 1 0 []]),(3,.rp 26 (ak p)),(4,.rp 28 (cZ b)),(7,.ptr (.s 7 0) 1 0 []),(9,.own (.s 58 0) acc.length 0 acc.length none)] [(.b 0,uJ m),(.s 7 0,.cells ⟨62,1,λ_=>encS s,0⟩),(.s 58 0,dA 122 aV dF acc)]) (λ(⟨acc,s,m⟩:List aQ×bM×Int)=>mZ s/\(0<=m/\m<6)/\acc.length<=b.steps.toNat/\acc++(pz p b.fuel (b.steps.toNat - acc.length) s m).1=(pz p b.fuel b.steps.toNat (aK p b.fuel).1 n).1/\(pz p b.fuel (b.steps.toNat - acc.length) s m).2=(pz p b.fuel b.steps.toNat (aK p b.fuel).1 n).2) (λ(⟨acc,s,m⟩:List aQ×bM×Int)=>b.steps.toNat - acc.length) ?_ ?_
 ·refine ⟨⟨[],(aK p b.fuel).1,n⟩,?_,?_⟩;{exact ⟨vU,hn,abO _,rfl,rfl⟩};refine eX ⟨cq,cq,cq,cq,⟨rfl,_,rfl,gX⟩,tt⟩ ⟨obs rfl,obs rfl,⟨λ_ _=>rfl,.inr ⟨rfl,122,_,rfl,by decide⟩⟩,tt⟩
 rintro ⟨acc,s,m⟩ ⟨u,hm,w,a,c⟩;refine sq (sq (rg [] rfl ?_));refine cd rfl (λj=>?_) (λj=>?_);{(have g:acc.length<b.steps.toNat:=by simp [-List.getD_eq_getElem?_getD]at j;omega);(have hk:b.steps.toNat - acc.length=(b.steps.toNat - (acc.length+1))+1:=by omega);refine sk (bk (sq (rgs [CG.pure (.tup [cu (aO p s),.int (lQ p s)])] rfl ?_ ?_)));{have d:=DK p s u;exact au};refine sq (sq (rg [] rfl ?_));refine cd rfl (λf=>?_) (λf=>?_);{have i:aO p s=[]:=aen (by simp [-List.getD_eq_getElem?_getD]at f;simpa using f);refine xt (sq (rg [] rfl ?_));refine rX ?_;rw [hk,pz,aaW i]at a c;simp only [adC]at a;rw [<- a,<- c];refine aG hT [(.s 58 0,acc.length)] (ts:=[(6,cu acc)]) (l:=[cu acc]) ⟨⟨_,rfl,aa4 _⟩,tt⟩ ⟨⟨rfl,_,rfl,?_⟩,tt⟩ ⟨obs rfl,tt⟩ rfl rfl rfl;exact gK rfl rfl rfl (λh=>by cases h) (by simp [dO,aT]) (λq d=>by rw [acW];exact ⟨rfl,vk.refl _⟩)};(have i:¬ aO p s=[]:=λe=>by rw [e]at f;cases f);obtain ⟨r,o⟩:∃ r,yT (aO p s) 6 m=r:=⟨_,rfl⟩;(have t:0<=r.2/\r.2<6:=by rw [<- o];exact Sv _ _ _ hm);refine sk (sq (rgs [⟨true,[.b 0],.tup [aV r.1,.bool true],[uJ r.2]⟩] rfl ?_ ?_));{have d:=UC acc.length (aO p s) m hm i (λx hx=>Xo hx);rw [o]at d;have y:jX [.b 0] [uJ m]:=⟨λ_ _=>rfl,tt⟩;have a0:jX (bs 1) [uJ r.2]:=⟨λ_ _=>rfl,tt⟩;exact au};refine sq (sq (rg [] rfl ?_));refine cd rfl (λv=>?_) (λv=>?_);{cases v};refine sk (sq ?_);refine wF [(.s 12 0,1)] ⟨sF,tt⟩ [(2,.clo 173 [.ptr (.b 0) 1 0 []]),(3,.rp 26 (ak p)),(4,.rp 28 (cZ b)),(7,.ptr (.s 7 0) 1 0 []),(9,.own (.s 58 0) acc.length 0 acc.length none),(12,.rp 122 (aV r.1))] [(.b 0,uJ r.2),(.s 7 0,.cells ⟨62,1,λ_=>encS s,0⟩),(.s 58 0,dA 122 aV dF acc)] ⟨cq,cq,cq,cq,cq,⟨rfl,_,rfl,bG rfl rfl (by decide) rfl (Gu _ _) rfl⟩,tt⟩ ⟨obs rfl,obs rfl,dM (nN _) rfl rfl rfl rfl rfl (λq d=>rfl),tt⟩ (rgs [CG.pure (.tup [encS (jE p s r.1 b.fuel).1,gB (jE p s r.1 b.fuel).2.1,.int (jE p s r.1 b.fuel).2.2])] rfl ?_ ?_);{have d:=YK p s r.1 b.fuel u;exact au};refine rgs [] rfl ?_ ?_;{have k:(T 122).bytes=16:=rfl;simp [ay,under,k];omega};refine ⟨⟨acc++[r.1],(jE p s r.1 b.fuel).1,r.2⟩,?_,?_,?_⟩;{rw [hk,pz,MC i,o]at a c;refine ⟨Pm u,t,by rw [bZ];omega,?_,?_⟩;{rw [<- a,bZ,adu];rfl};rw [<- c,bZ]};{refine eX ⟨cq,cq,cq,cq,⟨rfl,_,rfl,ah (by rw [bZ])⟩,tt⟩ ⟨obs rfl,obs rfl,dM (nN _) rfl rfl (by rw [bZ]) rfl rfl (Ec (z:=(T 122).zero) rfl rfl (λq d=>rfl)),tt⟩};(show b.steps.toNat - (acc++[r.1]).length<b.steps.toNat - acc.length;rw [bZ];omega)};(have g:acc.length=b.steps.toNat:=by simp [-List.getD_eq_getElem?_getD]at j;omega);refine xt (sq (rg [] rfl ?_));refine rX ?_;rw [g,Nat.sub_self,pz]at a c;simp only [adC]at a;rw [<- a,<- c];refine aG hT [(.s 58 0,acc.length)] (ts:=[(6,cu acc)]) (l:=[cu acc]) ⟨⟨_,rfl,aa4 _⟩,tt⟩ ⟨⟨rfl,_,rfl,?_⟩,tt⟩ ⟨obs rfl,tt⟩ rfl rfl rfl;exact gK rfl rfl rfl (λh=>by cases h) (by simp [dO,aT]) (λq d=>by rw [acW];exact ⟨rfl,vk.refl _⟩)
def tY (p:aj) (b:fA):List aQ:=if dU p 0 b=0 then (pz p b.fuel b.steps.toNat (aK p b.fuel).1 5).1 else []
theorem NP (p:aj) (b:fA):AC Tryz.prog T aI 118 [ak p,cZ b] [] (.tup [cu (tY p b),.int (dU p 0 b)]) []:=by
 refine aX Tryz.func118 ?_;refine sg rfl (sq (sq ?_));refine WP.ent (st':=aN [(2,.rp 26 (ak p)),(3,.rp 28 (cZ b))] []) (em [(.s 2 0,1),(.s 3 0,1)] ⟨sF,sF,tt⟩ ⟨rq,rq,tt⟩ trivial) ?_;refine rgs [CG.pure (.int (dU p 0 b))] rfl ?_ ?_
 ·have d:=Sm p 0 b;exact au
 refine sg rfl (cd rfl (λc=>?_) (λc=>?_))
 ·(have a:dU p 0 b≠0:=by simpa using c);refine sg rfl (rX ?_);refine aG hT [] (ts:=[(4,cu (tY p b)),(5,.int (dU p 0 b))]) (l:=[cu (tY p b),.int (dU p 0 b)]) trivial ⟨⟨rfl,_,rfl,?_⟩,cq,tt⟩ trivial rfl rfl rfl;rw [tY,MC a];exact dG (by decide)
 (have a:dU p 0 b=0:=by simpa using c);have hb:=(EH a).2.2;refine sk (sq (rg [] rfl ?_));refine sq (wE [(2,.rp 26 (ak p)),(3,.rp 28 (cZ b)),(7,.ptr (.s 7 0) 1 0 [])] [(.s 7 0,uJ 5)] ⟨obs rfl,tt⟩ ?_);refine rgs [⟨true,[.s 7 0],cu (tY p b),[uJ (pz p b.fuel b.steps.toNat (aK p b.fuel).1 5).2]⟩] rfl ?_ ?_;{have d:=PD p b 5 (by omega) hb.1;(have e:tY p b=(pz p b.fuel b.steps.toNat (aK p b.fuel).1 5).1:=by rw [tY,aaW a]);rw [<- e]at d;have f:ren (sig [.s 7 0] 0) (ak p)=ak p:=vX _ p;have g:ren (sig [.s 7 0] 0) (cZ b)=cZ b:=bY (λq=>by match q with | 0 | 1 | 2 | q+3=>rfl);rw [<- f,<- g]at d;have h:jX [.s 7 0] [uJ 5]:=⟨λ_ _=>rfl,tt⟩;have i:jX (bs 1) [uJ (pz p b.fuel b.steps.toNat (aK p b.fuel).1 5).2]:=⟨λ_ _=>rfl,tt⟩;exact au};exact WP.ret (aG hT [] (ts:=[(4,cu (tY p b)),(5,.int (dU p 0 b))]) (l:=[cu (tY p b),.int (dU p 0 b)]) trivial ⟨cq,⟨rfl,_,rfl,ah (by rw [a])⟩,tt⟩ trivial rfl rfl rfl)
theorem Pv (f:Bool) (l:List aQ) (n:Nat) (a:n+1<4294967296):AC Tryz.prog T aI 100 [.row 122 f (n+1) (λi=>aV (l.getD i dF))] [] (.own (.b 0) (n+1) 0 (n+1) none) [.cells ⟨122,n+1,λi=>aV (l.getD i dF),0⟩]:=by
 refine aX Tryz.func100 ?_;refine sg rfl (sq (sq (rg [] rfl ?_)));refine cd rfl (λa=>?_) (λa=>?_)
 ·cases a
 refine sk (sq (rgs [] rfl ?_ ?_));{have c:(T 122).bytes=16:=rfl;simp [ay,under,c];omega};refine rX ?_;refine FD hT [] [.s 7 0] (ts:=[(2,.own (.b 0) (n+1) 0 (n+1) none)]) (l:=[.own (.b 0) (n+1) 0 (n+1) none]) trivial rfl ⟨⟨_,.own (.s 7 0) (n+1) 0 (n+1) none,rfl,ah (by simp),rfl,rfl⟩,tt⟩ ⟨.inl ⟨_,.cells ⟨122,n+1,λi=>aV (l.getD i dF),0⟩,rfl,⟨λi=>aV (l.getD i dF),0,?_,aa4 _,abO _,abO _,λi hi=>ah ?_⟩,λ_ _=>rfl,?_⟩,tt⟩ rfl rfl;{simp};{exact (CS (abO _) hi).trans rfl};show Ob.cells ⟨122,n+1,λi=>aV (l.getD i dF),0⟩=Ob.cells ⟨122,n+1,λi=>ren _ (aV (l.getD i dF)),0⟩;simp only [Gu]
theorem Px (f:Bool):AC Tryz.prog T aI 100 [.row 122 f 0 (λi=>aV (([]:List aQ).getD i dF))] [] (.own (.b 0) 0 0 0 none) [dA 122 aV dF []]:=by
 refine aX Tryz.func100 ?_;refine sg rfl (sq (sq ?_));refine WP.nilreg (l:=[_]) (gs:=[]) hT hE rfl rfl trivial rfl rfl rfl rfl rfl rfl (λb=>?_);refine cd rfl (λa=>?_) (λa=>?_)
 ·exact sg rfl (WP.ret (FD hT [] [.s 7 0] (ts:=[(2,.own (.b 0) 0 0 0 none)]) (l:=[.own (.b 0) 0 0 0 none]) trivial rfl ⟨⟨_,.own (.s 7 0) 0 0 0 none,rfl,Vz,rfl,rfl⟩,tt⟩ ⟨.inr ⟨rfl,122,_,rfl,Nat.lt_of_lt_of_eq (by decide) (show 2=(T 122).size from rfl)⟩,tt⟩ rfl rfl))
 refine sk (sq (rgs [CG.mine,CG.nop] rfl ?_ ?_));{simp [ay,under]};exact WP.ret (FD hT [] [.s 5 0] (ts:=[(2,.own (.b 0) 0 0 0 none)]) (l:=[.own (.b 0) 0 0 0 none]) trivial rfl ⟨⟨_,.own (.s 5 0) 0 0 0 none,rfl,ah rfl,rfl,rfl⟩,tt⟩ ⟨.inl ⟨_,dA 122 aV dF [],rfl,⟨_,_,rfl,aa4 _,abO _,abO _,λi hi=>absurd hi (Nat.not_lt_zero _)⟩,λ_ _=>rfl,(kM (Gu _)).symm⟩,tt⟩ rfl rfl)
theorem Ru (l:List aQ) (c:l.length<4294967296):AC Tryz.prog T aI 100 [cu l] [] (cu l) []:=by
 have h:AC Tryz.prog T aI 100 [cu l] [] (.own (.b 0) l.length 0 l.length none) [dA 122 aV dF l]:=by cases l with| nil=>exact Px false| cons a r=>exact Pv false (a::r) r.length (by simpa using c)
 exact AC.ent h (uM.mk (ms:=[]) (ts:=[(0,cu l)]) hT [(.b 0,l.length)] ⟨⟨_,rfl,aa4 _⟩,tt⟩ ⟨⟨rfl,_,rfl,gK rfl rfl rfl (λh=>by cases h) (by simp [dO,aT]) (λj d=>by rw [acW];exact ⟨rfl,vk.refl _⟩)⟩,tt⟩ trivial rfl)
theorem VA (l:List aQ):AC Tryz.prog T aI 144 [cu l] [] (.row 122 true l.length (λi=>aV (l.getD i dF))) []:=by
 refine aX Tryz.func144 ?_;refine sg rfl (sg rfl ?_);refine rX ?_;refine aG hT [] (ts:=[(2,.row 122 true l.length (λi=>aV (l.getD i dF)))]) (l:=[.row 122 true l.length (λi=>aV (l.getD i dF))]) trivial ⟨⟨rfl,_,rfl,?_⟩,tt⟩ trivial rfl rfl rfl;refine ah ?_;simp [Tn,uP]
structure Ef where
 picks:List aQ
 cut:Bool
 rep:Bool
 deriving DecidableEq
def abl:Ef:=⟨[],false,false⟩
def Eb (x:Ef):AV:=bI 45 [cu x.picks,.bool x.cut,.bool x.rep]
theorem UY (ids:List Id) (x:Ef):fP ids (Eb x)=true:=rfl
abbrev fO (l:List Ef):Ob:=dA 45 Eb abl l
structure TS where
 runs:List Ef
 ends:List bM
 spun:Bool
 short:Bool
 over:Bool
theorem Fg (a:Id->Id) (b:fA):ren a (cZ b)=cZ b:=bY (λq=>by match q with | 0 | 1 | 2 | q+3=>rfl)
theorem lZ (a:Id->Id) (x:Ef):ren a (Eb x)=Eb x:=bY (λq=>by match q with | 0 | 1 | 2 | q+3=>rfl)
def yO (z:Bool) (s:bM):Nat->Bool
 | 0=>z
 | k+1=>yO z s k||(s.gos.getD k go0).status==5
theorem Y6 (l:List aQ) (x:aQ) (j:Nat) (c:j<l.length+1) {g:Nat->AV} (hg:g 0=aV x):ql l.length 1 (λi=>aV (l.getD i dF)) g j=aV ((l++[x]).getD j dF):=by
 show (bif Nat.beq j l.length then g 0 else aV (l.getD j dF))=_;cases a:Nat.beq j l.length with| true=>have:=abM a;subst this;simp [aaV,hg]| false=>(have b:j≠l.length:=λe=>by subst e;simp at a);simp only [ado];simp only [aaV,acV (show j<l.length by omega)]
section
variable {P:Program} {T:Nat->TI} {N:Nat}
end
theorem YD (a b:aQ):(a==b)=(a.go==b.go&&(a.alt==b.alt&&true)):=by
 obtain ⟨x,y⟩:=a;obtain ⟨z,w⟩:=b;rw [acC];simp
structure Za where
 all:List Ef
 whole:Bool
 deriving DecidableEq
def zK (x:Za):AV:=bI 32 [rowP 45 Eb abl x.all,.bool x.whole]
structure Rd (b:fA) (t:TS) (L:List (Ef×bM)) (sp:Bool) (r:TS):Prop where
 runs:r.runs=(t.runs++L.map (·.1)).take b.runs.toNat
 ends:r.ends=(t.ends++L.map (·.2)).take b.runs.toNat
 over:r.over=decide (b.runs.toNat<t.runs.length+L.length)
 spun:r.over=false->r.spun=(t.spun||sp)
 short:r.over=false->r.short=(t.short||L.any λx=>x.1.cut)
structure acO (b:fA) (t:TS):Prop where
 len:t.runs.length<=b.runs.toNat
 even:t.ends.length=t.runs.length
theorem Rd.ok {b:fA} {t:TS} {L:List (Ef×bM)} {sp:Bool} {r:TS} (ht:acO b t) (h:Rd b t L sp r):acO b r :=
 ⟨by rw [h.runs,adh];omega,by rw [h.runs,h.ends,adh,adh];simp [ht.even]⟩
def vC (p:aj) (n:Int):bM->List aQ->bM×Nat×List FU
 | s,[]=>(s,0,[])
 | s,x::r=>if (jE p s x n).2.2≠0 then (s,0,[])else ((vC p n (jE p s x n).1 r).1,(vC p n (jE p s x n).1 r).2.1+1,(jE p s x n).2.1::(vC p n (jE p s x n).1 r).2.2)
theorem VZ {p:aj} {n:Int}:∀ (l:List aQ) (s:bM),(vC p n s l).2.1<=l.length
 | [],s=>aa4 _
 | x::r,s=>by rw [vC];split;{exact abO _};exact Nat.succ_le_succ (VZ r _)
abbrev aat (l:List FU):Ob:=dA 137 gB vN l
def iE (p:aj) (l:List aQ) (b:fA):bM×Int×Int :=
 if dU p l.length b≠0 then (st0,dU p l.length b,0)else if b.steps<l.length then (st0,2,b.steps)else
 if (vC p b.fuel (aK p b.fuel).1 l).2.1<l.length then (st0,5,(vC p b.fuel (aK p b.fuel).1 l).2.1)else ((vC p b.fuel (aK p b.fuel).1 l).1,0,0)
theorem Xk (a:Id->Id) (c:MH):ren a (sD c)=sD c:=bY (λq=>by match q with | 0 | 1 | 2 | q+3=>rfl)
theorem acp (a:Id->Id) (e:FU):ren a (gB e)=gB e:=bY (λq=>by
 match q with
 | 0 | 1 | 2 | 3 | 4 | 5 | 6 | 8 | q+9=>rfl
 | 7=>exact bY λi=>Xk a _)
structure PTr where
 evs:List FU
 fin:bM
 cut:Bool
def Af (p:aj) (n:Int):bM->List aQ->List bM
 | s,[]=>[s]
 | s,x::r=>if (jE p s x n).2.2≠0 then [s]else s::Af p n (jE p s x n).1 r
abbrev qB (l:List bM):AV:=rowP 62 encS st0 l
def nY (p:aj) (l:List aQ) (b:fA):List bM:=if (iE p l b).2.1≠0 then []else Af p b.fuel (aK p b.fuel).1 l
def IY (p:aj) (l:List aQ) (b:fA):List FU:=if (iE p l b).2.1≠0 then []else (vC p b.fuel (aK p b.fuel).1 l).2.2
theorem RP {p:aj} {n:Int}:∀ (l:List aQ) (s:bM),(vC p n s l).2.2.length=(vC p n s l).2.1
 | [],s=>rfl
 | x::r,s=>by rw [vC];split;{rfl};simp [RP r]
theorem RQ {p:aj} {n:Int}:∀ (l:List aQ) (s:bM),(Af p n s l).length=(vC p n s l).2.1+1
 | [],s=>rfl
 | x::r,s=>by rw [Af,vC];split;{rfl};simp [RQ r]
def P8 (p:aj) (n:Int):bM->List aQ->List bM
 | _,[]=>[]
 | s,x::r=>if (jE p s x n).2.2≠0 then []else (jE p s x n).1::P8 p n (jE p s x n).1 r
theorem J5 {p:aj} {n:Int}:∀ (l:List aQ) (s:bM),Af p n s l=s::P8 p n s l
 | [],_=>rfl
 | x::r,s=>by rw [Af,P8];split;{rfl};rw [J5 r]
def runT (p:aj) (l:List aQ) (b:fA):List bM:=if dU p l.length b≠0 then []else if b.steps<l.length then []else P8 p b.fuel (aK p b.fuel).1 l
abbrev F9 (i:Id) (n:Nat):AV := .own i n 0 n none
abbrev qA (n:Nat):Ob := .cells ⟨47,1,λ_=>F9 (.b 1) n,0⟩
abbrev Bo (l:List bM):Ob:=dA 62 encS st0 l
theorem xE {a:Id->Id} {i j:Id} (h:a i=j) (n:Nat):ren a (F9 i n)=F9 j n:=by show AV.own (a i) _ _ _ _=_;rw [h]
theorem Zp (s:bM) (e:FU) (S:List bM) (hl:S.length<=257):AC Tryz.prog T aI 121 [encS s,gB e,.ptr (.b 0) 1 0 []] [qA S.length,Bo S] (.tup []) [qA (S++[s]).length,Bo (S++[s])]:=by
 refine aX Tryz.func121 ?_;refine sg rfl (wQ [(.s 3 0,1)] [(2,.ptr (.b 0) 1 0 []),(3,.rp 62 (encS s))] [(.b 0,qA S.length),(.b 1,Bo S)] ⟨obs rfl,obs rfl,tt⟩ ?_);refine rgs [] rfl ?_ ?_
 ·(have a:(T 62).bytes<=1024:=by decide);have hm:(S.length+1)*(T 62).bytes<=(S.length+1)*1024:=Nat.mul_le_mul_left _ a;exact au
 refine aG hT [] (ts:=[]) (l:=[]) trivial trivial ⟨obs rfl (hg:=q0 (ah ?_)),dM (SN _) rfl rfl (by rw [bZ]) rfl rfl (Ec (z:=(T 62).zero) rfl rfl (λq c=>rfl)),tt⟩ rfl rfl rfl;rw [bZ];rfl
theorem Wv (s:bM) (e:FU) (S:List bM) (hl:S.length<=257):AC Tryz.prog T aI 121 [ren (sig [.b 0,.b 1] 0) (encS s),ren (sig [.b 0,.b 1] 0) (gB e),.ptr (.b 0) 1 0 []] [gq (sig [.b 0,.b 1] 0) (qA S.length),gq (sig [.b 0,.b 1] 0) (Bo S)] (.tup []) [qA (S++[s]).length,Bo (S++[s])]:=by
 have a:gq (sig [.b 0,.b 1] 0) (qA S.length)=qA S.length:=by show Ob.cells ⟨_,_,λ_=>ren _ (F9 (.b 1) S.length),_⟩=_;rw [xE (j := .b 1) rfl]
 rw [vY,acp,a,kM (vY _)];exact Zp s e S hl
theorem V9 (p:aj) (l:List aQ) (b:fA) (v:l.length<=256) (f:bM):AC Tryz.prog T aI 110 [ak p,cu l,cZ b,.clo 121 [.ptr (.b 0) 1 0 []]] [qA 1,Bo [f]] (.tup [encS (vC p b.fuel (aK p b.fuel).1 l).1,.int (vC p b.fuel (aK p b.fuel).1 l).2.1]) [qA ([f]++P8 p b.fuel (aK p b.fuel).1 l).length,Bo ([f]++P8 p b.fuel (aK p b.fuel).1 l)]:=by
 refine aX Tryz.func110 ?_;refine sg rfl (sq ?_);refine wQ [(.s 4 0,1),(.s 6 0,1)] [(4,.rp 26 (ak p)),(6,.rp 28 (cZ b)),(1,cu l),(3,.clo 121 [.ptr (.b 0) 1 0 []]),(8,.ptr (.s 8 0) 1 0 [])] [(.b 0,qA 1),(.b 1,Bo [f]),(.s 8 0,.cells ⟨62,1,λ_=>(T 62).zero,0⟩)] ⟨obs rfl,obs rfl,obs rfl,tt⟩ (rgs [CG.pure (.tup [encS (aK p b.fuel).1,.int (aK p b.fuel).2])] rfl ?_ ?_)
 ·have k:=Bl p b.fuel;exact au
 refine sq (sq ?_);refine WP.rowlen 1 rfl (λhl=>?_);refine rg [] rfl (bk ?_);refine WP.loop (α:=Nat×bM×List bM) (λ(⟨i,s,S⟩:Nat×bM×List bM)=>aN [(1,cu l),(3,.clo 121 [.ptr (.b 0) 1 0 []]),(4,.rp 26 (ak p)),(6,.rp 28 (cZ b)),(8,.ptr (.s 8 0) 1 0 []),(10,.ptr (.s 10 0) 1 0 []),(24,cu l),(25,.int l.length),(26,.int i)] [(.b 0,qA S.length),(.b 1,Bo S),(.s 8 0,.cells ⟨62,1,λ_=>(T 62).zero,0⟩),(.s 10 0,.cells ⟨62,1,λ_=>encS s,0⟩)]) (λ(⟨i,s,S⟩:Nat×bM×List bM)=>i<=l.length/\mZ s/\(vC p b.fuel s (l.drop i)).1=(vC p b.fuel (aK p b.fuel).1 l).1/\(vC p b.fuel s (l.drop i)).2.1+i=(vC p b.fuel (aK p b.fuel).1 l).2.1/\S.length<=i+1/\S++P8 p b.fuel s (l.drop i)=[f]++P8 p b.fuel (aK p b.fuel).1 l) (λ(⟨i,s,S⟩:Nat×bM×List bM)=>l.length - i) ?_ ?_
 ·refine ⟨⟨0,(aK p b.fuel).1,[f]⟩,?_,?_⟩;{exact ⟨abO _,vU,rfl,rfl,aa4 _,rfl⟩};refine eX cX ⟨obs rfl,obs rfl,obs rfl,obs rfl,tt⟩
 rintro ⟨i,s,S⟩ ⟨hi,o,c,d,r,a⟩;refine sg rfl (sq ?_);refine cd rfl (λh=>?_) (λh=>?_);{(have e:i<l.length:=by simp [-List.getD_eq_getElem?_getD]at h;omega);(have hdr:l.drop i=l.getD i dF::l.drop (i+1):=by rw [aek e];simp [e]);obtain ⟨x,hx⟩:∃ x,l.getD i dF=x:=⟨_,rfl⟩;rw [hdr,hx,vC]at c d;rw [hdr,hx,P8]at a;refine sk (sq (bk (sq (rg [] rfl ?_))));refine sq (wF [(.s 13 0,1)] ⟨sF,tt⟩ [(1,cu l),(3,.clo 121 [.ptr (.b 0) 1 0 []]),(4,.rp 26 (ak p)),(6,.rp 28 (cZ b)),(8,.ptr (.s 8 0) 1 0 []),(10,.ptr (.s 10 0) 1 0 []),(12,.int i),(13,.rp 122 (aV x)),(24,cu l),(25,.int l.length),(26,.int i)] [(.b 0,qA S.length),(.b 1,Bo S),(.s 8 0,.cells ⟨62,1,λ_=>(T 62).zero,0⟩),(.s 10 0,.cells ⟨62,1,λ_=>encS s,0⟩)] ⟨cq,cq,cq,cq,cq,cq,cq,⟨rfl,_,rfl,bG rfl rfl (by decide) rfl (by rw [<- hx];rfl) rfl⟩,cq,cq,cq,tt⟩ ⟨obs rfl,obs rfl,obs rfl,obs rfl,tt⟩ ?_);refine rgs [CG.pure (.tup [encS (jE p s x b.fuel).1,gB (jE p s x b.fuel).2.1,.int (jE p s x b.fuel).2.2])] rfl ?_ ?_;{have k:=YK p s x b.fuel o;exact au};refine sq (sq (rg [] rfl ?_));refine cd rfl (λj=>?_) (λj=>?_);{(have he:(jE p s x b.fuel).2.2≠0:=by simpa using j);refine sg rfl (rX ?_);rw [aaW he]at c d a;simp only [adC]at a;rw [<- c,<- d,<- a];refine aG hT [(.s 8 0,1)] (ts:=[(8,.rp 62 (encS s)),(9,.int (0+i:Nat))]) (l:=[encS s,.int (0+i:Nat)]) ⟨sF,tt⟩ ⟨⟨rfl,_,rfl,rpv (hF:=by simp [dO,aT])⟩,⟨rfl,_,rfl,ah (by simp)⟩,tt⟩ ⟨obs rfl,obs rfl,tt⟩ rfl rfl rfl};(have he:¬ (jE p s x b.fuel).2.2≠0:=by simpa using j);refine sk (sq (rg [] rfl ?_));refine wQ [(.s 15 0,1)] [(1,cu l),(3,.clo 121 [.ptr (.b 0) 1 0 []]),(4,.rp 26 (ak p)),(6,.rp 28 (cZ b)),(8,.ptr (.s 8 0) 1 0 []),(10,.ptr (.s 10 0) 1 0 []),(15,.rp 137 (gB (jE p s x b.fuel).2.1)),(24,cu l),(25,.int l.length),(26,.int i)] [(.b 0,qA S.length),(.b 1,Bo S),(.s 8 0,.cells ⟨62,1,λ_=>(T 62).zero,0⟩),(.s 10 0,.cells ⟨62,1,λ_=>encS (jE p s x b.fuel).1,0⟩)] ⟨obs rfl,obs rfl,obs rfl,obs rfl,tt⟩ (rgs [⟨true,[.b 0,.b 1],.tup [],[qA (S++[(jE p s x b.fuel).1]).length,Bo (S++[(jE p s x b.fuel).1])]⟩] rfl ?_ ?_);{have k:=Wv (jE p s x b.fuel).1 (jE p s x b.fuel).2.1 S (by omega);have t:jX [.b 0,.b 1] [qA S.length,Bo S]:=⟨λ_ _=>rfl,λ_ _=>rfl,tt⟩;have u:jX (bs 2) [qA (S++[(jE p s x b.fuel).1]).length,Bo (S++[(jE p s x b.fuel).1])]:=⟨λ_ _=>rfl,λ_ _=>rfl,tt⟩;exact au};refine rg [] rfl ⟨⟨i+1,(jE p s x b.fuel).1,S++[(jE p s x b.fuel).1]⟩,?_,?_,?_⟩;{rw [MC he]at c d a;exact ⟨e,Pm o,c,by rw [<- d];show _+(i+1)=(_+1)+i;omega,by rw [bZ];omega,by rw [<- a,adu];rfl⟩};{refine eX cX ⟨obs rfl (hg:=q0 (ah (xE rfl _))),obs rfl (hg:=λq k=>ah (vY _ _)),obs rfl,obs rfl,tt⟩};(try simp only []);first | omega | grind};(have e:i=l.length:=by simp [-List.getD_eq_getElem?_getD]at h;omega);refine xt (sq (rg [] rfl ?_));refine rX ?_;rw [e,List.drop_length]at c d a;have m:s=_:=c;have n:0+l.length=_:=d;have g:S++[]=_:=a;rw [adC]at g;rw [<- m,<- n,<- g];refine aG hT [(.s 8 0,1)] (ts:=[(8,.rp 62 (encS s)),(9,.int (0+l.length:Nat))]) (l:=[encS s,.int (0+l.length:Nat)]) ⟨sF,tt⟩ ⟨⟨rfl,_,rfl,rpv (hF:=by simp [dO,aT])⟩,⟨rfl,_,rfl,ah (by simp)⟩,tt⟩ ⟨obs rfl,obs rfl,tt⟩ rfl rfl rfl
theorem ZA (p:aj) (l:List aQ) (b:fA) (a:bM):AC Tryz.prog T aI 62 [ak p,cu l,cZ b,.clo 121 [.ptr (.b 0) 1 0 []]] [qA 1,Bo [a]] (.tup [encS (iE p l b).1,.int (iE p l b).2.1,.int (iE p l b).2.2]) [qA ([a]++runT p l b).length,Bo ([a]++runT p l b)]:=by
 refine aX Tryz.func62 ?_;refine sg rfl (sq (sq ?_));refine wQ [(.s 4 0,1),(.s 6 0,1)] [(4,.rp 26 (ak p)),(6,.rp 28 (cZ b)),(1,cu l),(3,.clo 121 [.ptr (.b 0) 1 0 []]),(8,.ptr (.s 8 0) 1 0 [])] [(.b 0,qA 1),(.b 1,Bo [a]),(.s 8 0,.cells ⟨62,1,λ_=>(T 62).zero,0⟩)] ⟨obs rfl,obs rfl,obs rfl,tt⟩ (rgs [CG.pure (.int (dU p l.length b))] rfl ?_ ?_)
 ·have f:=Sm p l.length b;exact au
 refine sg rfl (cd rfl (λg=>?_) (λg=>?_))
 ·(have hf:dU p l.length b≠0:=by simpa using g);refine sg rfl (rX ?_);(have e:iE p l b=(st0,dU p l.length b,0):=by rw [iE,aaW hf]);(have c:runT p l b=[]:=by rw [runT,aaW hf]);rw [e,c];refine aG hT [(.s 8 0,1)] (ts:=[(8,.rp 62 (encS st0)),(9,.int (dU p l.length b)),(10,.int 0)]) (l:=[encS st0,.int (dU p l.length b),.int 0]) ⟨sF,tt⟩ ⟨⟨rfl,_,rfl,bG rfl rfl (by simp [dO,aT]) rfl zeroS rfl⟩,cq,cq,tt⟩ ⟨obs rfl,obs rfl,tt⟩ rfl rfl rfl
 (have hf:dU p l.length b=0:=by simpa using g);have hb:=(EH hf).2.2.1;refine sk (sq (sq (rg [] rfl ?_)));refine cd rfl (λh=>?_) (λh=>?_);{(have hl:b.steps<l.length:=by simpa using h);refine sq (dr [] rfl ?_);refine rX ?_;(have e:iE p l b=(st0,2,b.steps):=by rw [iE,MC (by omega),aaW hl]);(have c:runT p l b=[]:=by rw [runT,MC (by omega),aaW hl]);rw [e,c];refine aG hT [(.s 8 0,1)] (ts:=[(8,.rp 62 (encS st0)),(9,.int 2),(10,.int b.steps)]) (l:=[encS st0,.int 2,.int b.steps]) ⟨sF,tt⟩ ⟨⟨rfl,_,rfl,bG rfl rfl (by simp [dO,aT]) rfl zeroS rfl⟩,cq,cq,tt⟩ ⟨obs rfl,obs rfl,tt⟩ rfl rfl rfl};(have hl:¬ b.steps<l.length:=by simp at h;omega);(have c:runT p l b=P8 p b.fuel (aK p b.fuel).1 l:=by rw [runT,MC (by omega),MC hl]);refine sk (sq (rgs [⟨true,[.b 0,.b 1],.tup [encS (vC p b.fuel (aK p b.fuel).1 l).1,.int (vC p b.fuel (aK p b.fuel).1 l).2.1],[qA ([a]++P8 p b.fuel (aK p b.fuel).1 l).length,Bo ([a]++P8 p b.fuel (aK p b.fuel).1 l)]⟩] rfl ?_ ?_));{have f:=V9 p l b (by omega) a;have m:ren (sig [.b 0,.b 1] 0) (ak p)=ak p:=vX _ p;have n:ren (sig [.b 0,.b 1] 0) (cZ b)=cZ b:=Fg _ b;(have o:gq (sig [.b 0,.b 1] 0) (qA 1)=qA 1:=by show Ob.cells ⟨_,_,λ_=>ren _ (F9 (.b 1) 1),_⟩=_;rw [xE (j := .b 1) rfl]);have r:gq (sig [.b 0,.b 1] 0) (Bo [a])=Bo [a]:=kM (vY _);rw [<- m,<- n,<- o,<- r]at f;have t:jX [.b 0,.b 1] [qA 1,Bo [a]]:=⟨λ_ _=>rfl,λ_ _=>rfl,tt⟩;have u:jX (bs 2) [qA ([a]++P8 p b.fuel (aK p b.fuel).1 l).length,Bo ([a]++P8 p b.fuel (aK p b.fuel).1 l)]:=⟨λ_ _=>rfl,λ_ _=>rfl,tt⟩;exact au};refine sq (sq ?_);obtain ⟨z,d⟩:∃ z,vC p b.fuel (aK p b.fuel).1 l=z:=⟨_,rfl⟩;rw [d];obtain ⟨w,k⟩:∃ w,P8 p b.fuel (aK p b.fuel).1 l=w:=⟨_,rfl⟩;rw [k]at c ⊢;refine rg [] rfl (cd rfl (λi=>?_) (λi=>?_));{(have hw:z.2.1<l.length:=by simpa using i);refine sg rfl (rX ?_);(have e:iE p l b=(st0,5,(z.2.1:Int)):=by rw [iE,MC (by omega),MC hl,aaW (by rw [d];exact hw),d]);rw [e,c];refine aG hT [(.s 8 0,1)] (ts:=[(8,.rp 62 (encS st0)),(9,.int 5),(10,.int (z.2.1:Nat))]) (l:=[encS st0,.int 5,.int (z.2.1:Nat)]) ⟨sF,tt⟩ ⟨⟨rfl,_,rfl,bG rfl rfl (by simp [dO,aT]) rfl zeroS rfl⟩,cq,cq,tt⟩ ⟨obs rfl (hg:=q0 (ah (xE rfl _))),obs rfl (hg:=λq f=>ah (vY _ _)),tt⟩ rfl rfl rfl};(have hw:¬ z.2.1<l.length:=by simp at i;omega);refine sk (sq (rg [] rfl ?_));refine rX ?_;(have e:iE p l b=(z.1,0,0):=by rw [iE,MC (by omega),MC hl,MC (by rw [d];exact hw),d]);rw [e,c];refine aG hT [(.s 8 0,1)] (ts:=[(8,.rp 62 (encS z.1)),(9,.int 0),(10,.int 0)]) (l:=[encS z.1,.int 0,.int 0]) ⟨sF,tt⟩ ⟨⟨rfl,_,rfl,bG rfl rfl (by simp [dO,aT]) rfl (vY _ z.1) rfl⟩,cq,cq,tt⟩ ⟨obs rfl (hg:=q0 (ah (xE rfl _))),obs rfl (hg:=λq f=>ah (vY _ _)),tt⟩ rfl rfl rfl
theorem WZ (p:aj) (l:List aQ) (b:fA) (a:bM):AC Tryz.prog T aI 62 [ren (sig [.s 10 0,.s 24 0] 0) (ak p),cu l,ren (sig [.s 10 0,.s 24 0] 0) (cZ b),.clo 121 [.ptr (.b 0) 1 0 []]] [gq (sig [.s 10 0,.s 24 0] 0) (.cells ⟨47,1,λ_=>F9 (.s 24 0) 1,0⟩),gq (sig [.s 10 0,.s 24 0] 0) (Bo [a])] (.tup [encS (iE p l b).1,.int (iE p l b).2.1,.int (iE p l b).2.2]) [qA ([a]++runT p l b).length,Bo ([a]++runT p l b)]:=by
 have e:gq (sig [.s 10 0,.s 24 0] 0) (.cells ⟨47,1,λ_=>F9 (.s 24 0) 1,0⟩)=qA 1:=by show Ob.cells ⟨_,_,λ_=>ren _ (F9 (.s 24 0) 1),_⟩=_;rw [xE (j := .b 1) rfl]
 rw [e,vX,Fg,kM (vY _)];exact ZA p l b a
theorem abf {p:aj} {l:List aQ} {b:fA} (h:(iE p l b).2.1=0):[(aK p b.fuel).1]++runT p l b=nY p l b:=by
 have a:¬ dU p l.length b≠0:=λe=>by rw [iE,aaW e]at h;exact e h
 have c:¬ b.steps<l.length:=λe=>by rw [iE,MC a,aaW e]at h;cases h
 rw [runT,MC a,MC c,nY,MC (by rw [h];decide),J5];rfl
theorem abX (n:Int) (h:0<=n/\n<=4096):(if (if n>4096 then 4096 else n)<0 then (0:Int)else (if n>4096 then 4096 else n))=n:=by
 split <;> split <;> (try split) <;> omega
theorem Uf (p:aj) (l:List aQ) (b:fA):AC Tryz.prog T aI 75 [ak p,cu l,cZ b] [] (.tup [qB (nY p l b),.int (iE p l b).2.1]) []:=by
 refine aX Tryz.func75 ?_;refine sg rfl (sq ?_);obtain ⟨c,hc⟩:∃ c,(if (if b.fuel>4096 then 4096 else b.fuel)<0 then (0:Int)else (if b.fuel>4096 then 4096 else b.fuel))=c:=⟨_,rfl⟩;have j:0<=b.fuel/\b.fuel<=4096->c=b.fuel:=λh=>by rw [<- hc];exact abX _ h
 refine WP.ent (st':=aN [(3,.rp 26 (ak p)),(5,.rp 28 (cZ b)),(1,cu l)] []) (em [(.s 3 0,1),(.s 5 0,1)] ⟨sF,sF,tt⟩ ⟨rq,rq,cq,tt⟩ trivial) ?_;refine rgs [CG.pure (.tup [encS (aK p c).1,.int (aK p c).2])] rfl ?_ ?_
 ·have d:=Bl p c;rw [<- hc]at d ⊢;exact au
 refine sq (rg [CG.mine] rfl ?_);refine sq (wE [(1,cu l),(3,.rp 26 (ak p)),(5,.rp 28 (cZ b)),(10,.ptr (.s 10 0) 1 0 [])] [(.s 10 0,.cells ⟨47,1,λ_=>F9 (.s 24 0) 1,0⟩),(.s 24 0,Bo [(aK p c).1])] ⟨obs rfl,obs rfl,tt⟩ ?_);refine rgs [⟨true,[.s 10 0,.s 24 0],.tup [encS (iE p l b).1,.int (iE p l b).2.1,.int (iE p l b).2.2],[qA ([(aK p c).1]++runT p l b).length,Bo ([(aK p c).1]++runT p l b)]⟩] rfl ?_ ?_
 ·have d:=WZ p l b (aK p c).1;have o:jX [.s 10 0,.s 24 0] [.cells ⟨47,1,λ_=>F9 (.s 24 0) 1,0⟩,Bo [(aK p c).1]]:=⟨λ_ _=>rfl,λ_ _=>rfl,tt⟩;have r:jX (bs 2) [qA ([(aK p c).1]++runT p l b).length,Bo ([(aK p c).1]++runT p l b)]:=⟨λ_ _=>rfl,λ_ _=>rfl,tt⟩;exact au
 refine sq (sq (rg [] rfl ?_));refine cd rfl (λf=>?_) (λf=>?_)
 ·(have hf:(iE p l b).2.1≠0:=by simpa using f);refine sg rfl (rX ?_);rw [nY,aaW hf];exact aG hT [] (ts:=[(6,qB []),(7,.int (iE p l b).2.1)]) (l:=[qB [],.int (iE p l b).2.1]) trivial ⟨⟨rfl,_,rfl,dG (by decide)⟩,cq,tt⟩ trivial rfl rfl rfl
 (have hf:(iE p l b).2.1=0:=by simpa using f);(have k:0<=b.fuel/\b.fuel<=4096:=by(have m:¬ dU p l.length b≠0:=λe=>by rw [iE,aaW e]at hf;exact e hf);exact (EH (p:=p) (n:=l.length) (b:=b) (by simpa using m)).2.2.2.1);have g:=j k;have a:=abf hf;rw [<- g]at a;rw [hf];refine sk (sq ?_);refine WP.ent (st':=aN [(10,.ptr (.s 10 0) 1 0 [])] [(.s 10 0,.cells ⟨47,1,λ_=>F9 (.s 24 0) (nY p l b).length,0⟩),(.s 24 0,Bo (nY p l b))]) ?_ ?_;{rw [<- a];refine eX cX ⟨obs rfl (hg:=q0 (ah (xE (i := .b 1) rfl _))),obs rfl (hg:=λq d=>ah (vY _ _)),tt⟩};refine rg [] rfl (rX ?_);exact aG hT [(.s 24 0,(nY p l b).length)] (ts:=[(6,qB (nY p l b)),(7,.int 0)]) (l:=[qB (nY p l b),.int 0]) ⟨⟨_,rfl,aa4 _⟩,tt⟩ ⟨⟨rfl,_,rfl,gK rfl rfl rfl (λh=>by cases h) (by simp [dO,aT]) (λq d=>by rw [acW];exact ⟨rfl,vk.refl _⟩)⟩,cq,tt⟩ trivial rfl rfl rfl
def pq (f:Bool) (l:List MH):AV := .row 134 f l.length (λi=>sD (l.getD i rV))
def YR (x y:MH):Bool:=x.kind==y.kind&&x.num==y.num&&(x.wr||y.wr)
def lM (a b:List MH):Bool:=a.any λx=>b.any λy=>YR x y
theorem JX {a b:List MH} {i k:Nat} (hi:i<a.length) (hk:k<b.length) (h:YR (a.getD i rV) (b.getD k rV)=true):lM a b=true:=by
 simp only [lM,aei];exact ⟨a[i],acn hi,b[k],acn hk,by simpa [aaV,hi,hk]using h⟩
theorem Pz {a b:List MH} (h:∀ i,i<a.length -> ∀ k,k<b.length->YR (a.getD i rV) (b.getD k rV)=false):lM a b=false:=by
 simp only [lM,List.any_eq_false,aei,not_exists,not_and];intro x hx y c;obtain ⟨i,hi,rfl⟩:=ad6 hx;obtain ⟨k,hk,rfl⟩:=ad6 c;have:=h i hi k hk;simp [aaV,hi,hk]at this;simp [this]
theorem YQ (f g:Bool) (a b:List MH):AC Tryz.prog T aI 123 [pq f a,pq g b] [] (.bool (lM a b)) []:=by
 refine aX Tryz.func123 ?_;refine WP.rowlen 0 rfl (λn=>?_);refine WP.rowlen 1 rfl (λo=>?_);refine sg rfl (sq (sq (rg [] rfl ?_)));refine bk (WP.loop (α:=Nat) (λi=>aN [(1,pq g b),(9,pq f a),(10,.int a.length),(11,.int i)] []) (λi=>i<=a.length /\ ∀ p,p<i -> ∀ q,q<b.length->YR (a.getD p rV) (b.getD q rV)=false) (λi=>a.length - i) ?_ ?_)
 ·refine ⟨0,?_,?_⟩;{exact ⟨abO _,λp hp=>by omega⟩};refine eX cX trivial
 rintro i ⟨hi,hn⟩;refine sg rfl (sq ?_);refine cd rfl (λl=>?_) (λl=>?_);{(have c:i<a.length:=by simpa using l);refine sk (sq (bk (sq (rgs [] rfl ?_ ?_))));{simp [ay,under];omega};refine sg rfl (bk ?_);refine WP.loop (α:=Nat) (λk=>aN [(1,pq g b),(6,.ptr (.s 6 0) 1 0 []),(9,pq f a),(10,.int a.length),(11,.int i),(15,pq g b),(16,.int b.length),(17,.int k)] [(.s 6 0,.cells ⟨134,1,λ_=>sD (a.getD i rV),0⟩)]) (λk=>k<=b.length /\ ∀ q,q<k->YR (a.getD i rV) (b.getD q rV)=false) (λk=>b.length - k) ?_ ?_;{refine ⟨0,?_,?_⟩;{exact ⟨abO _,λp hp=>by omega⟩};refine eX cX ⟨obs rfl,tt⟩};rintro k ⟨hk,j⟩;refine sg rfl (sq ?_);refine cd rfl (λm=>?_) (λm=>?_);{(have d:k<b.length:=by simpa using m);refine sk (sq (bk (sq (rgs [] rfl ?_ ?_))));{simp [ay,under];omega};refine sg rfl (cd rfl (λe=>?_) (λe=>?_));{(have hc:YR (a.getD i rV) (b.getD k rV)=true:=by simp only [fE,band]at e;exact e);exact sg rfl (WP.ret (fin1 hT (by rfl) (JX c d hc).symm))};(have hc:YR (a.getD i rV) (b.getD k rV)=false:=by simp only [fE,band]at e;exact e);refine sk (rg [] rfl ?_);refine ⟨k+1,?_,?_,?_⟩;{refine ⟨d,λq r=>?_⟩;rcases adf q k with h | h;{exact j q h};(obtain rfl:q=k:=by omega);exact hc};{refine eX cX ⟨obs rfl,tt⟩};(try simp only []);first | omega | grind};(have d:k=b.length:=by simp at m;omega);subst d;refine xt (rg [] rfl ?_);refine ⟨i+1,?_,?_,?_⟩;{refine ⟨c,λp hp=>?_⟩;rcases adf p i with h | h;{exact hn p h};(obtain rfl:p=i:=by omega);exact j};{refine eX cX trivial};(try simp only []);first | omega | grind};(have c:i=a.length:=by simp at l;omega);subst c;refine xt (sq (rg [] rfl ?_));exact WP.ret (fin1 hT rfl (Pz hn).symm)
theorem UK (f g:Bool) (a b:List MH):AC Tryz.prog T aI 126 [pq f a,pq g b] [] (.bool (lM a b)) []:=by
 refine aX Tryz.func126 ?_;refine WP.rowlen 0 rfl (λn=>?_);refine WP.rowlen 1 rfl (λo=>?_);refine sg rfl (sq (sq (rg [] rfl ?_)));refine bk (WP.loop (α:=Nat) (λi=>aN [(0,pq f a),(1,pq g b),(5,.int i)] []) (λi=>i<=a.length /\ ∀ p,p<i -> ∀ q,q<b.length->YR (a.getD p rV) (b.getD q rV)=false) (λi=>a.length - i) ?_ ?_)
 ·refine ⟨0,?_,?_⟩;{exact ⟨abO _,λp hp=>by omega⟩};refine eX cX trivial
 rintro i ⟨hi,hn⟩;refine sq (sq (rg [] rfl ?_));refine cd rfl (λl=>?_) (λl=>?_);{(have c:i<a.length:=by simpa using l);refine sk (sq (bk (sq (rg [] rfl ?_))));refine bk (WP.loop (α:=Nat) (λk=>aN [(0,pq f a),(1,pq g b),(5,.int i),(6,.int k)] []) (λk=>k<=b.length /\ ∀ q,q<k->YR (a.getD i rV) (b.getD q rV)=false) (λk=>b.length - k) ?_ ?_);{refine ⟨0,?_,?_⟩;{exact ⟨abO _,λp hp=>by omega⟩};refine eX cX trivial};rintro k ⟨hk,j⟩;refine sq (sq (rg [] rfl ?_));refine cd rfl (λm=>?_) (λm=>?_);{(have d:k<b.length:=by simpa using m);refine sk (sq (bk (sq (drs [] rfl ?_ ?_))));{simp [ay,under];exact ⟨⟨⟨⟨⟨⟨c,d⟩,λ_=>c⟩,λ_=>d⟩,λ_ _=>c⟩,λ_ _ _=>d⟩,λp q r=>⟨⟨p,q⟩,r⟩⟩};refine cd rfl (λe=>?_) (λe=>?_);{(have hc:YR (a.getD i rV) (b.getD k rV)=true:=by simp only [fE,band]at e;exact e);exact sg rfl (WP.ret (fin1 hT (by rfl) (JX c d hc).symm))};(have hc:YR (a.getD i rV) (b.getD k rV)=false:=by simp only [fE,band]at e;exact e);refine sk (rg [] rfl ?_);refine ⟨k+1,?_,?_,?_⟩;{refine ⟨d,λq s=>?_⟩;rcases adf q k with h | h;{exact j q h};(obtain rfl:q=k:=by omega);exact hc};{refine eX cX trivial};(try simp only []);first | omega | grind};(have d:k=b.length:=by simp at m;omega);subst d;refine xt (rg [] rfl ?_);refine ⟨i+1,?_,?_,?_⟩;{refine ⟨c,λp hp=>?_⟩;rcases adf p i with h | h;{exact hn p h};(obtain rfl:p=i:=by omega);exact j};{refine eX cX trivial};(try simp only []);first | omega | grind};(have c:i=a.length:=by simp at l;omega);subst c;refine xt (sq (rg [] rfl ?_));exact WP.ret (fin1 hT rfl (Pz hn).symm)
theorem JW {m:Id->Option Ob} {F:Id->Nat} (l:List BT):Conv m F T (rowP 134 fD jL l) (pq false (l.map (·.t))):=by
 unfold pq;rw [adN];refine zL (λh=>h) (λj a=>?_);simp [fD,aaV,a]
def vS (p:aj) (s:bM) (g:Int):Int:=if lQ p s≠0 then lQ p s else if g<0\/6<=g then 1 else if lF (goI s g)=false then 9 else 0
def dV (p:aj) (s:bM) (g:Int):List MH:=if vS p s g=0 then (dK p s g).map (·.t)else []
def oI (p:aj) (s:bM) (z:Nat) (g:Int):Nat->Nat
 | 0=>0
 | k+1=>if z.testBit k=false\/(k:Int)=g then oI p s z g k else if lM (dV p s k) (dV p s g)=false then oI p s z g k ||| 2 ^ k else oI p s z g k
def uj (p:aj) (s:bM) (z:Nat) (g:Int):Nat:=oI p s z g 6
theorem wP (p:aj) (s:bM) (z:Nat) (g:Int):∀ k,oI p s z g k<2 ^ k
 | 0=>Nat.zero_lt_one
 | k+1=>by have h:=wP p s z g k;have a:2 ^ k<2 ^ (k+1):=Nat.pow_lt_pow_right (by decide) (by omega);rw [oI];split;{omega};split;{exact Nat.or_lt_two_pow (by omega) a};omega
structure SS where
 runs:List Ef
 given:Nat
 over:Bool
 short:Bool
def SS.cnt (t:SS):Nat:=t.runs.length+t.given
def jg (b:fA) (t:SS):SS:={ t with over:=t.over||decide ((t.cnt:Int)>=b.runs) }
def qL (b:fA) (t:SS) (picks:List aQ) (cut:Bool):SS:=if (jg b t).over=true then jg b t else { jg b t with runs:=t.runs++[⟨picks,cut,false⟩],short:=t.short||cut}
def Qj (b:fA) (t:SS):SS:=if (jg b t).over=true then jg b t else { jg b t with given:=t.given+1}
abbrev iY (t:SS) (s:bM):SS:={ t with short:=t.short||yO false s 6}
def uD (l:List aQ) (z:Nat):Bool:=l.any λx => !z.testBit x.go.toNat
abbrev BK (f:aQ->Nat->SS->SS) (z:Nat) (a:SS×Nat) (x:aQ):SS×Nat:=if z.testBit x.go.toNat=true\/a.1.over=true then a else (f x a.2 a.1,a.2 ||| 2 ^ x.go.toNat)
def pY (p:aj) (b:fA):Nat->bM->List aQ->Nat->SS->SS
 | 0,s,picks,z,t=>if aO p s=[]then qL b (iY t s) picks false else if uD (aO p s) z=false then Qj b (iY t s)else qL b (iY t s) picks true
 | k+1,s,picks,z,t=>if aO p s=[]then qL b (iY t s) picks false else if uD (aO p s) z=false then Qj b (iY t s)else
  ((aO p s).foldl (BK (λx g t=>pY p b k (jE p s x b.fuel).1 (picks++[x]) (uj p s g x.go) t) z) (iY t s,z)).1
def PY:SS:=⟨[],0,false,false⟩
def kU (p:aj) (b:fA):SS:=if dU p 0 b=0 then pY p b b.steps.toNat (aK p b.fuel).1 [] 0 PY else PY
structure SLaw (b:fA) (t u:SS):Prop where
 le:t.cnt<=u.cnt
 most:(t.cnt:Int)<=b.runs->(u.cnt:Int)<=b.runs
theorem SLaw.refl {b:fA} (t:SS):SLaw b t t:=⟨aa4 _,λh=>h⟩
theorem SLaw.trans {b:fA} {t u v:SS} (a:SLaw b t u) (c:SLaw b u v):SLaw b t v:=⟨ad8 a.le c.le,λh=>c.most (a.most h)⟩
structure I7 (b:fA) (t u:SS):Prop extends SLaw b t u where
 new:(u.over=true/\(u.cnt:Int)>=b.runs)\/t.cnt<u.cnt
theorem Kr {b:fA} {t:SS} {picks:List aQ} {c:Bool} (h:t.over=false):I7 b t (qL b t picks c):=by
 unfold qL jg;by_cases a:(t.cnt:Int)>=b.runs
 ·simp only [h,aew,adg a,adT];exact ⟨⟨aa4 _,λh=>h⟩,.inl ⟨rfl,a⟩⟩
 simp only [h,aew,acU a];(have e:SS.cnt { runs:=t.runs++[⟨picks,c,false⟩],given:=t.given,over:=false,short:=t.short||c}=t.cnt+1:=by simp [SS.cnt];omega);exact ⟨⟨by simp only [adx,adA];omega,λ_=>by simp only [adx,adA];omega⟩,.inr (by simp only [adx,adA];omega)⟩
theorem Sl {b:fA} {t:SS} (h:t.over=false):I7 b t (Qj b t):=by
 unfold Qj jg;by_cases a:(t.cnt:Int)>=b.runs
 ·simp only [h,aew,adg a,adT];exact ⟨⟨aa4 _,λh=>h⟩,.inl ⟨rfl,a⟩⟩
 simp only [h,aew,acU a];(have e:SS.cnt { runs:=t.runs,given:=t.given+1,over:=false,short:=t.short}=t.cnt+1:=by simp [SS.cnt];omega);exact ⟨⟨by simp only [adx,adA];omega,λ_=>by simp only [adx,adA];omega⟩,.inr (by simp only [adx,adA];omega)⟩
theorem OT {b:fA} {f:aQ->Nat->SS->SS} {z:Nat} (hf:∀ x g t,t.over=false->I7 b t (f x g t)):∀ (l:List aQ) (a:SS×Nat),SLaw b a.1 (l.foldl (BK f z) a).1/\(a.1.over=true->(l.foldl (BK f z) a).1=a.1)
 | [],a=>⟨SLaw.refl _,λ_=>rfl⟩
 | x::r,a=>by rw [List.foldl_cons];have c:=OT (z:=z) hf r (BK f z a x);by_cases h:z.testBit x.go.toNat=true\/a.1.over=true;{have e:BK f z a x=a:=aaW h;rw [e]at c ⊢;exact c};have e:BK f z a x=(f x a.2 a.1,a.2 ||| 2 ^ x.go.toNat):=MC h;rw [e]at c ⊢;(have d:a.1.over=false:=by simpa using λe=>h (.inr e));exact ⟨(hf x a.2 a.1 d).toSLaw.trans c.1,λe=>by rw [d]at e;cases e⟩
theorem OO {b:fA} {f:aQ->Nat->SS->SS} {z:Nat} (hf:∀ x g t,t.over=false->I7 b t (f x g t)):∀ (l:List aQ) (a:SS×Nat),a.1.over=false->uD l z=true->I7 b a.1 (l.foldl (BK f z) a).1
 | [],a,_,h=>by simp [uD]at h
 | x::r,a,ho,h=>by rw [List.foldl_cons];by_cases i:z.testBit x.go.toNat=true;{have e:BK f z a x=a:=aaW (.inl i);rw [e];exact OO hf r a ho (by simpa [uD,i]using h)};have e:BK f z a x=(f x a.2 a.1,a.2 ||| 2 ^ x.go.toNat):=MC (by simp [i,ho]);rw [e];have j:=hf x a.2 a.1 ho;have d:=OT (z:=z) hf r (f x a.2 a.1,a.2 ||| 2 ^ x.go.toNat);refine ⟨j.toSLaw.trans d.1,?_⟩;rcases j.new with c | c;{rw [d.2 c.1];exact .inl c};exact .inr (adt c d.1.le)
theorem Zr {p:aj} {b:fA}:∀ (k:Nat) (s:bM) (picks:List aQ) (z:Nat) (t:SS),t.over=false->I7 b t (pY p b k s picks z t):=by
 intro k;induction k with| zero=>intro s picks z t a;have e:∀ u,I7 b (iY t s) u->I7 b t u:=λu h=>⟨⟨h.le,h.most⟩,h.new⟩;rw [pY];split;{exact e _ (Kr a)};split;{exact e _ (Sl a)};exact e _ (Kr a)| succ k d=>intro s picks z t a;have e:∀ u,I7 b (iY t s) u->I7 b t u:=λu h=>⟨⟨h.le,h.most⟩,h.new⟩;rw [pY];split;{exact e _ (Kr a)};split;{exact e _ (Sl a)};rename_i i c;exact e _ (OO (f:=λx g t=>pY p b k (jE p s x b.fuel).1 (picks++[x]) (uj p s g x.go) t) (z:=z) (λx g t h=>d _ _ _ _ h) _ (iY t s,z) a (by simpa using c))
abbrev lV (z:Nat):AV := .v (.int .u64 (z:Int))
theorem J8 {a:Nat} (h:a<2 ^ 64):(BitVec.ofInt IntKind.u64.bits (a:Int)).toNat=a:=by
 show (BitVec.ofInt 64 (a:Int)).toNat=a;rw [BitVec.toNat_ofInt];omega
theorem VY {a:Nat} (h:a<2 ^ 64):IntKind.u64.wrap (a:Int)=a:=by rw [IntKind.wrap_u64];omega
theorem aaH {a b:Nat} (c:a<2 ^ 64) (hb:b<2 ^ 64):IntKind.u64.wrap ↑(BitVec.ofInt IntKind.u64.bits (a:Int) &&& BitVec.ofInt IntKind.u64.bits (b:Int)).toNat=((a &&& b:Nat):Int):=by
 rw [BitVec.toNat_and,J8 c,J8 hb];exact VY (Nat.and_lt_two_pow a hb)
theorem abz {a b:Nat} (c:a<2 ^ 64) (hb:b<2 ^ 64):IntKind.u64.wrap ↑(BitVec.ofInt IntKind.u64.bits (a:Int) ||| BitVec.ofInt IntKind.u64.bits (b:Int)).toNat=((a ||| b:Nat):Int):=by
 rw [BitVec.toNat_or,J8 c,J8 hb];exact VY (Nat.or_lt_two_pow c hb)
theorem acF (m i:Nat):((m:Int).fdiv (2 ^ i))=((m >>> i:Nat):Int):=by
 rw [Nat.shiftRight_eq_div_pow,aex _ (by exact Int.pow_nonneg (by decide))];simp
theorem ab2 (m i:Nat):(m >>> i) &&& 1=if m.testBit i=true then 1 else 0:=by
 rw [Nat.testBit,Nat.and_comm];have h:=Nat.and_one_is_mod (m >>> i);have b:1 &&& m >>> i=m >>> i &&& 1:=Nat.and_comm ..;rw [b,h];rcases Nat.mod_two_eq_zero_or_one (m >>> i)with a | a <;> simp [a]
theorem shN (i:Nat) (h:i<64):min ((i:Int).toNat) IntKind.u64.bits=i:=by simp only [ac9];exact aef (by show i<=64;omega)
theorem LC (z g:Nat) (d:z<64) (hg:g<6):AC Tryz.prog T aI 78 [lV z,.int g] [] (.bool (z.testBit g)) []:=by
 refine aX Tryz.func78 ?_;refine sg rfl (sg rfl ?_);refine rX ?_;refine fin1 hT (by rfl) ?_;rw [shN g (by omega),acF];have c:z >>> g<2 ^ 64:=aed (Nat.shiftRight_le z g) (by omega);have a:=aaH (b:=1) c (by decide);rw [show ((1:Nat):Int)=1 from rfl]at a;rw [a,ab2];cases z.testBit g <;> rfl
theorem Xv {z g:Nat} (a:z<64) (hg:g<6):z ||| 2 ^ g<64:=Nat.or_lt_two_pow (n:=6) a (Nat.pow_lt_pow_right (by decide) hg)
theorem J6 (z g:Nat) (b:z<64) (hg:g<6):AC Tryz.prog T aI 76 [lV z,.int g] [] (lV (z ||| 2 ^ g)) []:=by
 refine aX Tryz.func76 ?_;refine sg rfl (sg rfl ?_);refine rX ?_;refine aG hT [] (ts:=[(4,lV (z ||| 2 ^ g))]) (l:=[lV (z ||| 2 ^ g)]) trivial ⟨⟨rfl,_,rfl,ah (acY (λn=>AV.v (.int .u64 n)) ?_)⟩,tt⟩ trivial rfl rfl rfl;have hp:2 ^ g<2 ^ 64:=Nat.pow_lt_pow_right (by decide) (by omega);rw [shN g (by omega)];have a:(1:Int)*2 ^ g=((2 ^ g:Nat):Int):=by simp
 rw [a,VY hp,abz (by omega) hp]
theorem ZR (p:aj) (s:bM) (g:Int) (e:mZ s):AC Tryz.prog T aI 130 [ak p,encS s,.int g] [] (.int (vS p s g)) []:=by
 refine aX Tryz.func130 ?_;refine sg rfl (sq ?_);refine WP.ent (st':=aN [(3,.rp 26 (ak p)),(4,.rp 62 (encS s)),(2,.int g),(6,.int 0)] []) (em [(.s 3 0,1),(.s 4 0,1)] ⟨sF,sF,tt⟩ ⟨rq,rq,cq,cq,tt⟩ trivial) ?_;refine rgs [CG.pure (.int (lQ p s))] rfl ?_ ?_
 ·have f:=IE p s e;exact au
 refine sq (bk (sq (rg [] rfl ?_)));refine cd rfl (λc=>?_) (λc=>?_)
 ·(have b:lQ p s≠0:=by simpa using c);exact sg rfl (WP.ret (bn hT (by rfl) (by rw [vS,aaW b])))
 (have b:¬ lQ p s≠0:=by simpa using c);refine sg rfl (cd rfl (λa=>?_) (λa=>?_));{(have hg:g<0\/6<=g:=by simp only [fE]at a;simpa using a);exact sg rfl (WP.ret (bn hT (by rfl) (by rw [vS,MC b,aaW hg])))};(have hg:¬ (g<0\/6<=g):=by simp only [fE]at a;simpa using a);refine sq (rgs [CG.pure (.bool (lF (goI s g)))] rfl ?_ ?_);{have f:=Gh s g (by omega);exact au};refine cd rfl (λd=>?_) (λd=>?_);{(have hl:lF (goI s g)=false:=by simpa using d);exact sg rfl (WP.ret (bn hT (by rfl) (by rw [vS,MC b,MC hg,aaW hl])))};(have hl:¬ lF (goI s g)=false:=by simpa using d);refine sk (sq (rg [] rfl ?_));exact WP.ret (bn hT (by rfl) (by rw [vS,MC b,MC hg,MC hl]))
theorem QD {p:aj} {s:bM} {g:Int} (d:mZ s) (h:vS p s g=0):dX p s g:=by
 unfold vS at h;by_cases a:lQ p s≠0
 ·rw [aaW a]at h;exact absurd h a
 rw [MC a]at h;by_cases b:g<0\/6<=g;{rw [aaW b]at h;cases h};rw [MC b]at h;by_cases c:lF (goI s g)=false;{rw [aaW c]at h;cases h};exact ⟨d,aaG (by simpa using a),by simpa using c,by omega⟩
theorem Je (p:aj) (s:bM) (g:Int) (c:mZ s):AC Tryz.prog T aI 122 [ak p,encS s,.int g] [] (.tup [pq false (dV p s g),.int (vS p s g)]) []:=by
 refine aX Tryz.func122 ?_;refine sg rfl (sq (sq ?_));refine WP.ent (st':=aN [(3,.rp 26 (ak p)),(4,.rp 62 (encS s)),(2,.int g)] []) (em [(.s 3 0,1),(.s 4 0,1)] ⟨sF,sF,tt⟩ ⟨rq,rq,cq,tt⟩ trivial) ?_;refine rgs [CG.pure (.int (vS p s g))] rfl ?_ ?_
 ·have d:=ZR p s g c;exact au
 refine sg rfl (cd rfl (λb=>?_) (λb=>?_))
 ·(have a:vS p s g≠0:=by simpa using b);refine sg rfl (rX ?_);refine aG hT [] (ts:=[(6,pq false (dV p s g)),(7,.int (vS p s g))]) (l:=[pq false (dV p s g),.int (vS p s g)]) trivial ⟨⟨rfl,_,rfl,?_⟩,cq,tt⟩ trivial rfl rfl rfl;rw [dV,MC a];exact dG (by decide)
 (have a:vS p s g=0:=by simpa using b);refine sk (sq (rgs [CG.pure (rowP 134 fD jL (dK p s g))] rfl ?_ ?_));{have d:=MV p s g (QD c a);exact au};refine rX ?_;refine aG hT [] (ts:=[(6,pq false (dV p s g)),(7,.int (vS p s g))]) (l:=[pq false (dV p s g),.int (vS p s g)]) trivial ⟨⟨rfl,_,rfl,?_⟩,⟨rfl,_,rfl,?_⟩,tt⟩ trivial rfl rfl rfl;{rw [dV,aaW a];exact JW _};rw [a];exact ah rfl
theorem S9 (p:aj) (s:bM) (z:Nat) (g:Int) (h:mZ s) (i:z<64):AC Tryz.prog T aI 77 [ak p,encS s,lV z,.int g] [] (lV (uj p s z g)) []:=by
 refine aX Tryz.func77 ?_;refine sg rfl (sq ?_);refine WP.ent (st':=aN [(4,.rp 26 (ak p)),(5,.rp 62 (encS s)),(2,lV z),(3,.int g)] []) (em [(.s 4 0,1),(.s 5 0,1)] ⟨sF,sF,tt⟩ ⟨rq,rq,cq,cq,tt⟩ trivial) ?_;refine rgs [CG.pure (.tup [pq false (dV p s g),.int (vS p s g)])] rfl ?_ ?_
 ·have c:=Je p s g h;exact au
 refine sg rfl (sq (sq (rg [] rfl ?_)));refine bk (WP.loop (α:=Nat) (λk=>aN [(2,lV z),(3,.int g),(4,.rp 26 (ak p)),(5,.rp 62 (encS s)),(9,pq false (dV p s g)),(11,lV (oI p s z g k)),(22,.int k)] []) (λk=>k<=6) (λk=>6 - k) ?_ ?_)
 ·refine ⟨0,?_,?_⟩;{omega};refine eX cX trivial
 rintro k hk;refine sg rfl (sq ?_);refine cd rfl (λd=>?_) (λd=>?_);{(have a:k<6:=by simp [-List.getD_eq_getElem?_getD]at d;omega);have f:oI p s z g k<64:=adt (wP p s z g k) (adZ (by decide) hk);refine sk (sq (bk (sq (rg [] rfl ?_))));refine sq (sq (rgs [CG.pure (.bool (z.testBit k))] rfl ?_ ?_));{have c:=LC z k i a;exact au};refine cd rfl (λb=>?_) (λb=>?_);{(have hc:z.testBit k=false\/(k:Int)=g:=by simp only [fE]at b;simpa using b);refine xt (rg [] rfl ?_);refine ⟨k+1,?_,?_,?_⟩;{exact a};{refine eX ⟨cq,cq,cq,cq,cq,⟨rfl,_,rfl,ah (by rw [oI,aaW hc])⟩,cq,tt⟩ trivial};(try simp only []);first | omega | grind};(have hc:¬ (z.testBit k=false\/(k:Int)=g):=by simp only [fE]at b;simpa using b);refine sk (sq (rgs [CG.pure (.tup [pq false (dV p s k),.int (vS p s k)])] rfl ?_ ?_));{have c:=Je p s k h;exact au};refine sq (rgs [CG.pure (.bool (lM (dV p s k) (dV p s g)))] rfl ?_ ?_);{have c:=YQ false false (dV p s k) (dV p s g);exact au};refine cd rfl (λe=>?_) (λe=>?_);{(have hd:lM (dV p s k) (dV p s g)=false:=by simpa using e);refine rgs [CG.pure (lV (oI p s z g k ||| 2 ^ k))] rfl ?_ ?_;{have c:=J6 (oI p s z g k) k f a;exact au};refine rg [] rfl ⟨k+1,?_,?_,?_⟩;{exact a};{refine eX ⟨cq,cq,cq,cq,cq,⟨rfl,_,rfl,ah (by rw [oI,MC hc,aaW hd])⟩,cq,tt⟩ trivial};(try simp only []);first | omega | grind};(have hd:¬ lM (dV p s k) (dV p s g)=false:=by simpa using e);refine sk (rg [] rfl ?_);refine ⟨k+1,?_,?_,?_⟩;{exact a};{refine eX ⟨cq,cq,cq,cq,cq,⟨rfl,_,rfl,ah (by rw [oI,MC hc,MC hd])⟩,cq,tt⟩ trivial};(try simp only []);first | omega | grind};(have a:k=6:=by simp [-List.getD_eq_getElem?_getD]at d;omega);subst a;refine xt (sq (rg [] rfl ?_));exact WP.ret (aG hT [] (ts:=[(8,lV (uj p s z g))]) (l:=[lV (uj p s z g)]) trivial ⟨⟨rfl,_,rfl,ah rfl⟩,tt⟩ trivial rfl rfl rfl)
def IX {α:Type} (q:α->Bool) (l:List α):Int:=match l.findIdx? q with | some i=>(i:Int) | none => -1
theorem Tt {α:Type} {q:α->Bool} {l:List α} {d:α} {i:Nat} (hi:i<l.length) (hx:q (l.getD i d)=true) (hn:∀ j,j<i->q (l.getD j d)=false):IX q l=i:=by
 have g:∀ j (h:j<l.length),l.getD j d=l[j]:=λj h=>by simp [aaV,h]
 have e:l.findIdx? q=some i:=by rw [List.findIdx?_eq_some_iff_getElem];refine ⟨hi,by rw [<- g i hi];exact hx,λj a=>?_⟩;intro h;rw [<- g j (by omega),hn j a]at h;cases h
 rw [IX,e]
theorem Tq {α:Type} {q:α->Bool} {l:List α} {d:α} (hn:∀ j,j<l.length->q (l.getD j d)=false):IX q l = -1:=by
 have e:l.findIdx? q=none:=by rw [List.findIdx?_eq_none_iff];intro x hx;obtain ⟨j,a,rfl⟩:=ad6 hx;have:=hn j a;simpa [aaV,a]using this
 rw [IX,e]
theorem OM {α:Type} (q:α->Bool) (l:List α):decide (IX q l>=0)=l.any q:=by
 unfold IX;cases h:l.findIdx? q with| none=>rw [List.findIdx?_eq_none_iff]at h;(have:l.any q=false:=by simpa using h);rw [this];rfl| some i=>rw [List.findIdx?_eq_some_iff_getElem]at h;obtain ⟨a,b,_⟩:=h;have:l.any q=true:=List.any_eq_true.2 ⟨l[i],acn a,b⟩;rw [this];exact adg (Int.natCast_nonneg i)
theorem rJ {p:aj} {s:bM} {x:aQ} (h:x∈aO p s):0<=x.go/\x.go<6:=by
 unfold aO at h;split at h
 ·obtain ⟨g,hg,hx⟩:=List.mem_flatMap.1 h;obtain ⟨a,_,rfl⟩:=List.mem_map.1 hx;obtain ⟨j,b,c,_⟩:=qU.1 hg;simp only;omega
 cases h
theorem abK (x:iP):AC Tryz.prog T aI 177 [bW x] [] (.bool (x.status==5)) []:=by
 refine aX Tryz.func177 ?_;refine sg rfl (sg rfl ?_);exact WP.ret (fin1 hT (by rfl) rfl)
theorem abw (x:aQ) (z:Nat) (b:z<64) (hx:0<=x.go/\x.go<6):AC Tryz.prog T aI 179 [aV x,.rp 161 (lV z)] [] (.bool (!z.testBit x.go.toNat)) []:=by
 refine aX Tryz.func179 ?_;refine sg rfl (sq (rgs [CG.pure (.bool (z.testBit x.go.toNat))] rfl ?_ ?_))
 ·have a:=LC z x.go.toNat b (by omega);rw [show ((x.go.toNat:Nat):Int)=x.go by omega]at a;exact au
 exact WP.ret (fin1 hT (by rfl) rfl)
abbrev UA (t:Nat) {α:Type} (f:Bool) (enc:α->AV) (d:α) (l:List α):AV := .row t f l.length (λi=>enc (l.getD i d))
theorem Ya (g:Bool) (l:List iP) (z:Nat):AC Tryz.prog T aI 236 [UA 59 g bW go0 l,(.clo 177 [])] [] (.int (IX (λx:iP=>x.status==5) l)) []:=by
 refine aX Tryz.func236 ?_;refine WP.rowlen 0 rfl (λe=>?_);refine sg rfl (sq (sq (rg [] rfl ?_)));refine bk (WP.loop (α:=Nat) (λi=>aN [(0,UA 59 g bW go0 l),(1,(.clo 177 [])),(7,.int l.length),(8,.int i)] []) (λi=>i<=l.length /\ ∀ j,j<i->(λx:iP=>x.status==5) (l.getD j go0)=false) (λi=>l.length - i) ?_ ?_)
 ·refine ⟨0,?_,?_⟩;{exact ⟨abO _,λj h=>by omega⟩};refine eX cX trivial
 rintro i ⟨hi,hn⟩;refine sg rfl (sq ?_);refine cd rfl (λc=>?_) (λc=>?_);{(have b:i<l.length:=by simpa using c);refine sk (sq (bk (sq (rg [] rfl ?_))));refine sq (rgs [CG.pure (.bool ((λx:iP=>x.status==5) (l.getD i go0)))] rfl ?_ ?_);{have f:=abK (l.getD i go0);(have a:0<=(i:Int)/\(i:Int)<(l.length:Int):=by omega);simp only [ay,under,CG.pure];(repeat' with_reducible refine And.intro ?_ ?_);(all_goals (try with_reducible intros));all_goals (first | exact trivial | assumption | omega | exact f | exact a | exact a.1 | exact a.2 | (simp;done) | grind)};refine cd rfl (λd=>?_) (λd=>?_);{exact sg rfl (WP.ret (bn hT (by rfl) (Tt b d hn).symm))};refine sk (rg [] rfl ?_);refine ⟨i+1,?_,?_,?_⟩;{exact ⟨b,all_succ (Q:=λj=>(λx:iP=>x.status==5) (l.getD j go0)=false) hn d⟩};{refine eX cX trivial};(try simp only []);first | omega | grind};(have b:i=l.length:=by simp at c;omega);subst b;refine xt (sq (rg [] rfl ?_));exact WP.ret (bn hT (by rfl) (Tq hn).symm)
theorem YO (g:Bool) (l:List iP) (z:Nat):AC Tryz.prog T aI 176 [UA 59 g bW go0 l,(.clo 177 [])] [] (.bool (l.any (λx:iP=>x.status==5))) []:=by
 refine aX Tryz.func176 ?_;refine sg rfl (sq (rgs [CG.pure (.int (IX (λx:iP=>x.status==5) l))] rfl ?_ ?_))
 ·have a:=Ya g l z;exact au
 exact WP.ret (fin1 hT (by rfl) (OM _ _))
theorem X9 (g:Bool) (l:List aQ) (z:Nat) (h:z<64) (hl:∀ x∈l,0<=x.go/\x.go<6):AC Tryz.prog T aI 174 [UA 122 g aV dF l,(.clo 179 [.rp 161 (lV z)])] [] (.int (IX (λx:aQ => !z.testBit x.go.toNat) l)) []:=by
 refine aX Tryz.func174 ?_;refine WP.rowlen 0 rfl (λe=>?_);refine sg rfl (sq (sq (rg [] rfl ?_)));refine bk (WP.loop (α:=Nat) (λi=>aN [(0,UA 122 g aV dF l),(1,(.clo 179 [.rp 161 (lV z)])),(7,.int l.length),(8,.int i)] []) (λi=>i<=l.length /\ ∀ j,j<i->(λx:aQ => !z.testBit x.go.toNat) (l.getD j dF)=false) (λi=>l.length - i) ?_ ?_)
 ·refine ⟨0,?_,?_⟩;{exact ⟨abO _,λj k=>by omega⟩};refine eX cX trivial
 rintro i ⟨hi,hn⟩;refine sg rfl (sq ?_);refine cd rfl (λc=>?_) (λc=>?_);{(have a:i<l.length:=by simpa using c);refine sk (sq (bk (sq (rg [] rfl ?_))));refine sq (rgs [CG.pure (.bool ((λx:aQ => !z.testBit x.go.toNat) (l.getD i dF)))] rfl ?_ ?_);{have f:=abw (l.getD i dF) z h (hl _ (by rw [aaV,aaT a];exact acn _));(have b:0<=(i:Int)/\(i:Int)<(l.length:Int):=by omega);simp only [ay,under,CG.pure];(repeat' with_reducible refine And.intro ?_ ?_);(all_goals (try with_reducible intros));all_goals (first | exact trivial | assumption | omega | exact f | exact b | exact b.1 | exact b.2 | (simp;done) | grind)};refine cd rfl (λd=>?_) (λd=>?_);{exact sg rfl (WP.ret (bn hT (by rfl) (Tt a d hn).symm))};refine sk (rg [] rfl ?_);refine ⟨i+1,?_,?_,?_⟩;{exact ⟨a,all_succ (Q:=λj=>(λx:aQ => !z.testBit x.go.toNat) (l.getD j dF)=false) hn d⟩};{refine eX cX trivial};(try simp only []);first | omega | grind};(have a:i=l.length:=by simp at c;omega);subst a;refine xt (sq (rg [] rfl ?_));exact WP.ret (bn hT (by rfl) (Tq hn).symm)
theorem YN (g:Bool) (l:List aQ) (z:Nat) (a:z<64) (hl:∀ x∈l,0<=x.go/\x.go<6):AC Tryz.prog T aI 178 [UA 122 g aV dF l,(.clo 179 [.rp 161 (lV z)])] [] (.bool (l.any (λx:aQ => !z.testBit x.go.toNat))) []:=by
 refine aX Tryz.func178 ?_;refine sg rfl (sq (rgs [CG.pure (.int (IX (λx:aQ => !z.testBit x.go.toNat) l))] rfl ?_ ?_))
 ·have b:=X9 g l z a hl;exact au
 exact WP.ret (fin1 hT (by rfl) (OM _ _))
theorem Jf {s:bM}:∀ {k:Nat},yO false s k=true ↔ ∃ i,i<k/\((s.gos.getD i go0).status==5)=true
 | 0=>by simp [yO]
 | k+1=>by rw [yO,adM,Jf (k:=k)];constructor;{rintro (⟨i,b,a⟩ | h);{exact ⟨i,by omega,a⟩};exact ⟨k,by omega,h⟩};rintro ⟨i,b,a⟩;by_cases e:i=k;{subst e;exact .inr a};exact .inl ⟨i,by omega,a⟩
theorem Ui {s:bM} (h:s.gos.length=6):(s.gos.any λx:iP=>x.status==5)=yO false s 6:=by
 rw [acC,Jf,aei];constructor
 ·rintro ⟨x,hx,a⟩;obtain ⟨j,b,rfl⟩:=ad6 hx;exact ⟨j,by omega,by simpa [aaV,b]using a⟩
 rintro ⟨i,hi,a⟩;exact ⟨s.gos[i],acn (by omega),by simpa [aaV,h▸hi,(show i<s.gos.length by omega)]using a⟩
def oV (i:Id) (p:aj) (b:fA) (t:SS):AV:=bI 150 [ak p,cZ b,.own i t.runs.length 0 t.runs.length none,.int t.given,.bool t.over,.bool t.short]
abbrev rW (p:aj) (b:fA) (t:SS):Ob := .cells ⟨150,1,λ_=>oV (.b 1) p b t,0⟩
theorem qM {a:Id->Id} {i j:Id} (c:a i=j) (p:aj) (b:fA) (t:SS):ren a (oV i p b t)=oV j p b t:=bY (λq=>by
 match q with
 | 0=>exact vX a p
 | 1=>exact Fg a b
 | 2=>show AV.own (a i) _ 0 _ none=_;rw [c];rfl
 | 3 | 4 | 5 | q+6=>rfl)
theorem Qy (i:Id) (p:aj) (b:fA) (t:SS) (x:Bool):(oV i p b t).put [4] (.bool x)=oV i p b { t with over:=x}:=dB (ab6 rfl)
theorem yX (i:Id) (p:aj) (b:fA) (t:SS) (x:Bool):(oV i p b t).put [5] (.bool x)=oV i p b { t with short:=x}:=dB (ab6 rfl)
theorem NZ (i:Id) (p:aj) (b:fA) (t:SS) (x:Nat):(oV i p b t).put [3] (.int x)=oV i p b { t with given:=x}:=dB (ab6 rfl)
abbrev okT (b:fA) (t:SS):Prop:=t.cnt<=65536
theorem ZE (p:aj) (b:fA) (t:SS) (ht:okT b t):AC Tryz.prog T aI 181 [.ptr (.b 0) 1 0 []] [rW p b t,fO t.runs] (.bool (!(jg b t).over)) [rW p b (jg b t),fO t.runs]:=by
 refine aX Tryz.func181 ?_;refine sg rfl (sq ?_);have hc:t.runs.length+t.given<=65536:=ht;refine drs [] rfl ?_ ?_
 ·simp [ay,under]
 refine sq (wE [(0,.ptr (.b 0) 1 0 [])] [(.b 0,rW p b (jg b t)),(.b 1,fO t.runs)] ⟨obs rfl (hg:=q0 (ah ((Qy _ p b t _).trans (by rw [bK (by omega) (by omega),jg,SS.cnt,fE];push_cast;rfl)))),obs rfl,tt⟩ ?_);exact rg [] rfl (WP.ret (aG hT [] (ts:=[(2,.bool (!(jg b t).over))]) (l:=[.bool (!(jg b t).over)]) trivial cX ⟨obs rfl,obs rfl,tt⟩ rfl rfl rfl))
theorem KO {a:Id->Id} (c:a (.b 1) = .b 1) (p:aj) (b:fA) (t:SS):gq a (rW p b t)=rW p b t:=by
 show Ob.cells ⟨_,_,λ_=>ren a (oV (.b 1) p b t),_⟩=_;rw [qM c]
theorem qO {ids:List Id} {p:aj} {b:fA} {t:SS} {L:List Ef} (h:fP ids (oV (.b 1) p b t)=true):jX ids [rW p b t,fO L]:=⟨λ_ _=>h,λ_ _=>rfl,tt⟩
theorem NM (p:aj) (b:fA) (t:SS) (ht:okT b t):AC Tryz.prog T aI 181 [.ptr (.b 0) 1 0 []] [gq (sig [.b 0,.b 1] 0) (rW p b t),gq (sig [.b 0,.b 1] 0) (fO t.runs)] (.bool (!(jg b t).over)) [rW p b (jg b t),fO t.runs]:=by
 rw [KO rfl,kM (lZ _)];exact ZE p b t ht
theorem abg (p:aj) (b:fA) (t:SS) (ht:okT b t) (picks:List aQ) (hp:picks.length<=256) (cut:Bool):AC Tryz.prog T aI 180 [.ptr (.b 0) 1 0 [],cu picks,.bool cut] [rW p b t,fO t.runs] (.tup []) [rW p b (qL b t picks cut),fO (qL b t picks cut).runs]:=by
 refine aX Tryz.func180 ?_;refine sq (rgs [⟨true,[.b 0,.b 1],.bool (!(jg b t).over),[rW p b (jg b t),fO t.runs]⟩] rfl ?_ ?_)
 ·have c:=NM p b t ht;have f:jX [.b 0,.b 1] [rW p b t,fO t.runs]:=qO rfl;have g:jX (bs 2) [rW p b (jg b t),fO t.runs]:=qO rfl;exact au
 refine cd rfl (λd=>?_) (λd=>?_)
 ·have a:(jg b t).over=false:=by simpa using d
  refine sq (wE [(0,.ptr (.b 0) 1 0 []),(1,cu picks),(2,.bool cut)] [(.b 0,.cells ⟨150,1,λ_=>bI 150 [ak p,cZ b,.own (.b 1) t.runs.length 0 t.runs.length none,.int t.given,.bool (jg b t).over,.bool t.short],0⟩),(.b 1,fO t.runs)] ⟨obs rfl (hg:=q0 (ah (qM rfl p b _))),obs rfl (hg:=λq c=>ah (lZ _ _)),tt⟩ ?_)
  have hc:t.runs.length+t.given<=65536:=ht
  refine drs [CG.pure (cu picks)] rfl ?_ ?_
  ·have c:=Ru picks (by omega);have e:(T 45).bytes=32:=rfl;exact au
  refine wE [(0,.ptr (.b 0) 1 0 []),(2,.bool cut)] [(.b 0,rW p b { jg b t with runs:=t.runs++[⟨picks,cut,false⟩] }),(.b 1,fO (t.runs++[⟨picks,cut,false⟩]))] ⟨obs rfl (hg:=q0 (ah (Eq.trans (b:=bI 150 [ak p,cZ b,.own (.b 1) (t.runs.length+1) 0 (t.runs.length+1) none,.int t.given,.bool (jg b t).over,.bool t.short]) (bY λq=>by match q with | 0 | 1 | 2 | 3 | 4 | 5 | q+6=>rfl) (acY (λn=>bI 150 [ak p,cZ b,.own (.b 1) n 0 n none,.int t.given,.bool (jg b t).over,.bool t.short]) (show t.runs.length+1=(t.runs++[(⟨picks,cut,false⟩:Ef)]).length from (bZ _ _).symm))))),dM (UY _) rfl rfl (by rw [bZ]) rfl rfl (Ec (z:=(T 45).zero) rfl (bY λq=>by match q with | 0 | 1 | 2 | q+3=>rfl) (λq c=>rfl)),tt⟩ (rg [] rfl ?_)
  change Fin ..
  first
  | (
   rw [show qL b t picks cut={ jg b t with runs:=t.runs++[⟨picks,cut,false⟩],short:=t.short||cut} by rw [qL,MC (by rw [a];decide)]]
   exact aG hT [] (ts:=[]) (l:=[]) trivial trivial ⟨obs rfl (hg:=q0 (ah ((yX _ p b _ _).trans (by rw [fE];rfl)))),obs rfl,tt⟩ rfl rfl rfl)
  | (
   rw [show qL b t picks cut=jg b t by rw [qL,aaW a]]
   exact aG hT [] (ts:=[]) (l:=[]) trivial trivial ⟨obs rfl (hg:=q0 (ah (qM rfl p b _))),obs rfl (hg:=λq c=>ah (lZ _ _)),tt⟩ rfl rfl rfl)
 ·have a:(jg b t).over=true:=by simpa using d
  refine sk ?_
  change Fin ..
  first
  | (
   rw [show qL b t picks cut={ jg b t with runs:=t.runs++[⟨picks,cut,false⟩],short:=t.short||cut} by rw [qL,MC (by rw [a];decide)]]
   exact aG hT [] (ts:=[]) (l:=[]) trivial trivial ⟨obs rfl (hg:=q0 (ah ((yX _ p b _ _).trans (by rw [fE];rfl)))),obs rfl,tt⟩ rfl rfl rfl)
  | (
   rw [show qL b t picks cut=jg b t by rw [qL,aaW a]]
   exact aG hT [] (ts:=[]) (l:=[]) trivial trivial ⟨obs rfl (hg:=q0 (ah (qM rfl p b _))),obs rfl (hg:=λq c=>ah (lZ _ _)),tt⟩ rfl rfl rfl)
def gnS (g:Int) (z:Nat) (r:aQ):Nat:=if r.go<g then z ||| 2 ^ r.go.toNat else z
def FB (l:List aQ) (g:Int) (z:Nat):Nat:=l.foldl (gnS g) z
theorem LG {g:Int}:∀ {l:List aQ} {z:Nat},(∀ r∈l,0<=r.go/\r.go<6)->z<64->FB l g z<64
 | [],_,_,h=>h
 | r::l,z,h1,h=>by refine LG (l:=l) (z:=gnS g z r) (λx hx=>h1 x (adv _ hx)) ?_;unfold gnS;split;{have:=h1 r (adO ..);exact Xv h (by omega)};exact h
theorem Ti {g:Int} {q:Nat}:∀ {l:List aQ} {z:Nat},(FB l g z).testBit q=(z.testBit q||l.any λr=>decide (r.go<g)&&decide (r.go.toNat=q))
 | [],z=>by simp [FB]
 | r::l,z=>by have e:FB (r::l) g z=FB l g (gnS g z r):=rfl;rw [e,Ti (l:=l),List.any_cons,gnS];by_cases h:r.go<g;{rw [aaW h,Nat.testBit_or,Nat.testBit_two_pow,adg h,adG,Bool.or_assoc]};rw [MC h,acU h,ad5,aew]
theorem Yg {l:List aQ} {g:Int} {z j:Nat} (h:j<l.length):FB (l.take (j+1)) g z=gnS g (FB (l.take j) g z) (l.getD j dF):=by
 rw [FB,adY,List.foldl_append];simp [h];rfl
def PL (p:aj) (n:Int):bM->List aQ->Nat->Nat
 | _,[],z=>z
 | s,x::r,z=>PL p n (jE p s x n).1 r (uj p s (FB (aO p s) x.go z) x.go)
def qp (z:Nat):Nat->List Int
 | 0=>[]
 | k+1=>if z.testBit k=true then qp z k++[(k:Int)]else qp z k
theorem Iz (z:Nat):∀ k,(qp z k).length<=k
 | 0=>aa4 _
 | k+1=>by have:=Iz z k;rw [qp];split;{rw [bZ];omega};omega
def I5 (p:aj) (l:List aQ) (b:fA):List Int:=if (iE p l b).2.1≠0 then []else qp (PL p b.fuel (aK p b.fuel).1 l 0) 6
theorem MN {p:aj} {n:Int}:∀ (l:List aQ) (s:bM) (i:Nat),(vC p n s l).2.1=l.length->i<l.length->(Af p n s l).getD (i+1) st0=(jE p ((Af p n s l).getD i st0) (l.getD i dF) n).1
 | [],_,_,_,h=>absurd h (Nat.not_lt_zero _)
 | x::r,s,i,hk,h=>by rw [vC]at hk;rw [Af];by_cases he:(jE p s x n).2.2≠0;{rw [aaW he]at hk;cases hk};rw [MC he]at hk ⊢;cases i with| zero=>rw [J5];rfl| succ i=>have:=MN r (jE p s x n).1 i (by simpa using hk) (by simpa using h);simpa using this
theorem ML {p:aj} {n:Int}:∀ (l:List aQ) (s:bM) (i:Nat),(vC p n s l).2.1=l.length->i<l.length->(jE p ((Af p n s l).getD i st0) (l.getD i dF) n).2.2=0
 | [],_,_,_,h=>absurd h (Nat.not_lt_zero _)
 | x::r,s,i,hk,h=>by rw [vC]at hk;rw [Af];by_cases he:(jE p s x n).2.2≠0;{rw [aaW he]at hk;cases hk};rw [MC he]at hk ⊢;cases i with| zero=>simpa using he| succ i=>have:=ML r (jE p s x n).1 i (by simpa using hk) (by simpa using h);simpa using this
theorem V7 {p:aj} {n:Int}:∀ (l:List aQ) (s:bM),mZ s -> ∀ u∈Af p n s l,mZ u
 | [],s,h,u,a=>by rw [Af,aee]at a;subst a;exact h
 | x::r,s,h,u,a=>by rw [Af]at a;split at a;{rw [aee]at a;subst a;exact h};rcases List.mem_cons.1 a with rfl | a;{exact h};exact V7 r _ (Pm h) u a
theorem qJ {p:aj} {l:List aQ} {b:fA} (h:(iE p l b).2.1=0):nY p l b=Af p b.fuel (aK p b.fuel).1 l/\(nY p l b).length=l.length+1/\(vC p b.fuel (aK p b.fuel).1 l).2.1=l.length/\l.length<=256:=by
 have e:nY p l b=Af p b.fuel (aK p b.fuel).1 l:=by rw [nY,MC (by rw [h];decide)]
 have a:¬ dU p l.length b≠0:=λe=>by rw [iE,aaW e]at h;exact e h
 have d:¬ b.steps<l.length:=λe=>by rw [iE,MC a,aaW e]at h;cases h
 have f:¬ (vC p b.fuel (aK p b.fuel).1 l).2.1<l.length:=λe=>by rw [iE,MC a,MC d,aaW e]at h;cases h
 have g:=VZ (p:=p) (n:=b.fuel) l (aK p b.fuel).1;have c:(vC p b.fuel (aK p b.fuel).1 l).2.1=l.length:=by omega
 have hb:=(EH (p:=p) (n:=l.length) (b:=b) (by simpa using a)).2.2;exact ⟨e,by rw [e,RQ,c],c,by have:=hb.1;omega⟩
theorem Wu {p:aj} {l:List aQ} {b:fA} (h:(iE p l b).2.1=0) {i:Nat} (hi:i<l.length):(nY p l b).getD (i+1) st0=(jE p ((nY p l b).getD i st0) (l.getD i dF) b.fuel).1:=by
 obtain ⟨e,_,a,_⟩:=qJ h;rw [e];exact MN l _ i a hi
theorem abe {p:aj} {l:List aQ} {b:fA} (h:(iE p l b).2.1=0) {i:Nat} (hi:i<=l.length):mZ ((nY p l b).getD i st0):=by
 obtain ⟨e,hl,a,_⟩:=qJ h;have:i<(nY p l b).length:=by omega
 rw [aaV,aaT this];exact V7 l _ vU _ (by rw [<- e];exact acn _)
theorem Na {p:aj} {l:List aQ} {b:fA} (h:(iE p l b).2.1=0):(nY p l b).getD 0 st0=(aK p b.fuel).1:=by
 rw [(qJ h).1,J5];rfl
theorem VH (p:aj) (l:List aQ) (b:fA):AC Tryz.prog T aI 38 [ak p,cu l,cZ b] [] (.tup [ints false (I5 p l b),.int (iE p l b).2.1]) []:=by
 refine aX Tryz.func38 ?_;refine sg rfl (sq ?_);refine WP.ent (st':=aN [(3,.rp 26 (ak p)),(5,.rp 28 (cZ b)),(1,cu l)] []) (em [(.s 3 0,1),(.s 5 0,1)] ⟨sF,sF,tt⟩ ⟨rq,rq,cq,tt⟩ trivial) ?_;refine rgs [CG.pure (.tup [qB (nY p l b),.int (iE p l b).2.1])] rfl ?_ ?_
 ·have e:=Uf p l b;exact au
 refine sq (sq (rg [] rfl ?_));refine cd rfl (λh2=>?_) (λh2=>?_)
 ·(have hf:(iE p l b).2.1≠0:=by simpa using h2);refine sg rfl (rX ?_);rw [I5,aaW hf];exact aG hT [] (ts:=[(6,ints false []),(7,.int (iE p l b).2.1)]) (l:=[ints false [],.int (iE p l b).2.1]) trivial ⟨⟨rfl,_,rfl,dG (by decide)⟩,cq,tt⟩ trivial rfl rfl rfl
 (have hf:(iE p l b).2.1=0:=by simpa using h2);obtain ⟨_,a9,_,b2⟩:=qJ hf;obtain ⟨S,hS⟩:∃ S,nY p l b=S:=⟨_,rfl⟩;(have a8:∀ i,i<l.length->S.getD (i+1) st0=(jE p (S.getD i st0) (l.getD i dF) b.fuel).1:=λi hi=>by rw [<- hS];exact Wu hf hi);(have b0:∀ i,i<=l.length->mZ (S.getD i st0):=λi hi=>by rw [<- hS];exact abe hf hi);(have a7:S.getD 0 st0=(aK p b.fuel).1:=by rw [<- hS];exact Na hf);rw [hS]at a9;rw [I5,MC (by rw [hf];decide),hf,hS];refine sk (sq (rg [] rfl ?_));refine sq (sq (rg [] rfl ?_));refine bk (WP.loop (α:=Nat×Nat) (λ(⟨i,z⟩:Nat×Nat)=>aN [(3,.rp 26 (ak p)),(8,qB S),(10,lV z),(30,cu l),(31,.int l.length),(32,.int i)] []) (λ(⟨i,z⟩:Nat×Nat)=>i<=l.length/\z<64/\PL p b.fuel (S.getD i st0) (l.drop i) z=PL p b.fuel (aK p b.fuel).1 l 0) (λ(⟨i,z⟩:Nat×Nat)=>l.length - i) ?_ ?_);{refine ⟨⟨0,0⟩,?_,?_⟩;{exact ⟨abO _,by decide,by rw [a7];rfl⟩};refine eX cX trivial};rintro ⟨i,z⟩ ⟨hi,hz,ha⟩;refine WP.rowlen 30 rfl (λhl=>?_);refine sg rfl (sq ?_);refine cd rfl (λh6=>?_) (λh6=>?_);{(have a:i<l.length:=by simp [-List.getD_eq_getElem?_getD]at h6;omega);(have hdr:l.drop i=l.getD i dF::l.drop (i+1):=by rw [aek a];simp [a]);obtain ⟨x,hx⟩:∃ x,l.getD i dF=x:=⟨_,rfl⟩;have a3:=a8 i a;have w:=b0 i (by omega);obtain ⟨s,hs⟩:∃ s,S.getD i st0=s:=⟨_,rfl⟩;rw [hs,hx]at a3;rw [hs]at w;rw [hdr,hx,hs,PL]at ha;refine sk (sq (bk (sq (rgs [] rfl ?_ ?_))));{simp [-List.getD_eq_getElem?_getD,ay,under];omega};refine sq (wF [(.s 12 0,1)] ⟨sF,tt⟩ [(3,.rp 26 (ak p)),(8,qB S),(10,lV z),(11,.int i),(12,.rp 122 (aV x)),(30,cu l),(31,.int l.length),(32,.int i)] [] ⟨cq,cq,cq,cq,⟨rfl,_,rfl,bG rfl rfl (by decide) rfl (by rw [<- hx];rfl) rfl⟩,cq,cq,cq,tt⟩ trivial ?_);refine drs [CG.pure (.tup [cu (aO p s),.int (lQ p s)])] rfl ?_ ?_;{have e:=DK p s w;rw [<- hs]at e ⊢;simp only [ay,under,CG.pure];(repeat' with_reducible refine And.intro ?_ ?_);(all_goals (try with_reducible intros));all_goals (first | exact trivial | exact e | omega | (simp;done) | trace_state)};refine sg rfl (sq (sq (rg [] rfl ?_)));refine bk (WP.loop (α:=Nat) (λj=>aN [(3,.rp 26 (ak p)),(8,qB S),(11,.int i),(12,.rp 122 (aV x)),(15,lV (FB ((aO p s).take j) x.go z)),(30,cu l),(31,.int l.length),(32,.int i),(47,cu (aO p s)),(48,.int (aO p s).length),(49,.int j)] []) (λj=>j<=(aO p s).length) (λj=>(aO p s).length - j) ?_ ?_);{refine ⟨0,?_,?_⟩;{exact abO _};refine eX cX trivial};rintro j hj;refine WP.rowlen 47 rfl (λb8=>?_);refine sg rfl (sq ?_);refine cd rfl (λm=>?_) (λm=>?_);{(have c:j<(aO p s).length:=by simp [-List.getD_eq_getElem?_getD]at m;omega);obtain ⟨y,hy⟩:∃ y,(aO p s).getD j dF=y:=⟨_,rfl⟩;(have b9:0<=y.go/\y.go<6:=by rw [<- hy];exact rJ (by rw [aaV,aaT c];exact acn _));(have b5:((y.go.toNat:Nat):Int)=y.go:=by omega);have u:FB ((aO p s).take j) x.go z<64:=LG (λr hr=>rJ (List.mem_of_mem_take hr)) hz;have f:=Yg (g:=x.go) (z:=z) c;rw [hy,gnS]at f;refine sk (sq (bk (sq (rgs [] rfl ?_ ?_))));{simp [-List.getD_eq_getElem?_getD,ay,under];omega};refine sq (wF [(.s 17 0,1)] ⟨sF,tt⟩ [(3,.rp 26 (ak p)),(8,qB S),(11,.int i),(12,.rp 122 (aV x)),(15,lV (FB ((aO p s).take j) x.go z)),(17,.rp 122 (aV y)),(30,cu l),(31,.int l.length),(32,.int i),(47,cu (aO p s)),(48,.int (aO p s).length),(49,.int j)] [] ⟨cq,cq,cq,cq,cq,⟨rfl,_,rfl,bG rfl rfl (by decide) rfl (by rw [<- hy];rfl) rfl⟩,cq,cq,cq,cq,cq,cq,tt⟩ trivial ?_);refine rg [] rfl (cd rfl (λn=>?_) (λn=>?_));{(have v:y.go<x.go:=by simpa using n);rw [aaW v]at f;refine rgs [CG.pure (lV (FB ((aO p s).take j) x.go z ||| 2 ^ y.go.toNat))] rfl ?_ ?_;{have e:=J6 (FB ((aO p s).take j) x.go z) y.go.toNat u (by omega);rw [b5]at e;exact au};refine rg [] rfl ⟨j+1,?_,?_,?_⟩;{exact c};{refine eX ⟨cq,cq,cq,cq,⟨rfl,_,rfl,ah (by rw [f])⟩,cq,cq,cq,cq,cq,cq,tt⟩ trivial};(try simp only []);first | omega | grind};(have v:¬ y.go<x.go:=by simpa using n);rw [MC v]at f;refine sk (rg [] rfl ?_);refine ⟨j+1,?_,?_,?_⟩;{exact c};{refine eX ⟨cq,cq,cq,cq,⟨rfl,_,rfl,ah (by rw [f])⟩,cq,cq,cq,cq,cq,cq,tt⟩ trivial};(try simp only []);first | omega | grind};(have c:j=(aO p s).length:=by simp [-List.getD_eq_getElem?_getD]at m;omega);subst c;rw [adJ];have u:FB (aO p s) x.go z<64:=LG (λr hr=>rJ hr) hz;refine xt (drs [CG.pure (lV (uj p s (FB (aO p s) x.go z) x.go))] rfl ?_ ?_);{have e:=S9 p s (FB (aO p s) x.go z) x.go w u;rw [<- hs]at e ⊢;simp only [ay,under,CG.pure];(repeat' with_reducible refine And.intro ?_ ?_);(all_goals (try with_reducible intros));all_goals (first | exact trivial | exact e | omega | (simp;done) | trace_state)};refine rg [] rfl ⟨⟨i+1,uj p s (FB (aO p s) x.go z) x.go⟩,?_,?_,?_⟩;{exact ⟨a,wP p s _ x.go 6,by rw [a3];exact ha⟩};{refine eX cX trivial};(try simp only []);first | omega | grind};(have a:i=l.length:=by simp [-List.getD_eq_getElem?_getD]at h6;omega);rw [a,List.drop_length]at ha;have ha:z=_:=ha;rw [<- ha];refine xt (sq (rg [] rfl ?_));refine sq (sq (rg [] rfl ?_));refine bk (WP.loop (α:=Nat) (λk=>aN [(10,lV z),(18,.own (.s 82 0) (qp z k).length 0 (qp z k).length none),(73,.int k)] [(.s 82 0,pJ 3 .i64 (qp z k))]) (λk=>k<=6) (λk=>6 - k) ?_ ?_);{refine ⟨0,?_,?_⟩;{omega};refine eX ⟨cq,⟨rfl,_,rfl,gX⟩,cq,tt⟩ ⟨⟨λ_ _=>rfl,.inr ⟨rfl,3,_,rfl,by decide⟩⟩,tt⟩};rintro k hk;refine sg rfl (sq ?_);refine cd rfl (λo=>?_) (λo=>?_);{(have d:k<6:=by simp [-List.getD_eq_getElem?_getD]at o;omega);have b7:=Iz z k;refine sk (sq (bk (sq (rg [] rfl ?_))));refine sq (rgs [CG.pure (.bool (z.testBit k))] rfl ?_ ?_);{have e:=LC z k hz d;exact au};refine cd rfl (λt=>?_) (λt=>?_);{(have e1:qp z k++[(k:Int)]=qp z (k+1):=by rw [qp,aaW t]);refine rgs [] rfl ?_ ?_;{have b1:(T 3).bytes=8:=rfl;simp only [ay,under,b1];(repeat' with_reducible refine And.intro ?_ ?_);(all_goals (try with_reducible intros));all_goals (first | exact trivial | omega | (simp;done) | trace_state)};refine rg [] rfl ⟨k+1,?_,?_,?_⟩;{exact d};{rw [<- e1];refine eX ⟨cq,⟨rfl,_,rfl,ah (by rw [bZ])⟩,cq,tt⟩ ⟨o9 rfl rfl (by rw [bZ]) rfl rfl (app1 (z:=(T 3).zero) rfl (λq e=>rfl)),tt⟩};(try simp only []);first | omega | grind};(have e1:qp z k=qp z (k+1):=by rw [qp,MC (by rw [t];decide)]);refine sk (rg [] rfl ?_);refine ⟨k+1,?_,?_,?_⟩;{exact d};{rw [<- e1];refine eX cX ⟨obs rfl,tt⟩};(try simp only []);first | omega | grind};(have d:k=6:=by simp [-List.getD_eq_getElem?_getD]at o;omega);subst d;refine xt (sq (rg [] rfl ?_));refine rX ?_;exact aG hT [(.s 82 0,(qp z 6).length)] (ts:=[(6,ints false (qp z 6)),(7,.int 0)]) (l:=[ints false (qp z 6),.int 0]) ⟨⟨_,rfl,aa4 _⟩,tt⟩ ⟨⟨rfl,_,rfl,gK rfl rfl rfl (λh=>by cases h) (by simp [dO,aT]) (λq e=>by rw [acW];exact ⟨rfl,vk.refl _⟩)⟩,cq,tt⟩ trivial rfl rfl rfl
def eY (f:Nat->Bool):Nat->Nat
 | 0=>0
 | k+1=>eY f k+(if f k then 2 ^ k else 0)
theorem IC (f:Nat->Bool):∀ k,eY f k<2 ^ k
 | 0=>Nat.one_pos
 | k+1=>by have:=IC f k;rw [eY,Nat.pow_succ];split <;> omega
theorem JY (f:Nat->Bool):∀ k j,(eY f k).testBit j=(decide (j<k)&&f j)
 | 0,j=>by simp [eY]
 | k+1,j=>by have b:=IC f k;have a:=JY f k j;rw [eY];rcases Nat.lt_trichotomy j k with h | h | h;{rw [show decide (j<k+1)=true from adg (by omega)];rw [show decide (j<k)=true from adg h]at a;split;{rw [ad9,Nat.testBit_two_pow_add_gt h,a]};exact a};{subst h;rw [show decide (j<j+1)=true from adg (by omega)];rw [show decide (j<j)=false from acU (by omega)]at a;split;{rename_i hf;rw [ad9,Nat.testBit_two_pow_add_eq,a,hf];rfl};rename_i hf;rw [adV,a];simpa using hf};rw [show decide (j<k+1)=false from acU (by omega),ad5];refine ad3 ?_;have:2 ^ (k+1)<=2 ^ j:=adZ (by decide) (by omega);rw [Nat.pow_succ]at this;split <;> omega
theorem IB {n:Nat} {f:Nat->Bool} (hn:n<2 ^ 64) (h:∀ j,j<64->n.testBit j=f j):eY f 64=n:=by
 refine Nat.eq_of_testBit_eq λj=>?_;rw [JY];by_cases a:j<64
 ·rw [h j a,adg a,adG]
 rw [acU a,ad5,ad3];exact adt hn (adZ (by decide) (by omega))
def uN (a:Int):Nat:=(wU a).toNat
abbrev oC (a:Int):Prop := -9223372036854775808<=a/\a<=9223372036854775807
theorem Bf (a:Int):wU a=uN a:=(aey (sH a).1).symm
theorem sJ (a:Int):uN a<2 ^ 64:=by have:=sH a;unfold uN;omega
theorem nH (a:Int):(uN a:Int)=a % 18446744073709551616:=by rw [<- Bf,wU,IntKind.wrap_u64]
theorem Wj {a:Int} (h:oC a):wI (uN a)=a:=by rw [wI,IntKind.wrap_i64,nH];omega
theorem pX (a:Int):oC (wI a):=by rw [wI,IntKind.wrap_i64];constructor <;> omega
theorem yL (n:Nat):uN (n:Int)=n % 2 ^ 64:=by have:=nH n;omega
theorem Bh (a:Int):uN (wI a)=uN a:=by have b:=nH (wI a);have c:=nH a;rw [wI,IntKind.wrap_i64]at b;rw [wI,IntKind.wrap_i64];omega
theorem FZ {n:Nat} (h:n<2 ^ 64):uN (wI n)=n:=by rw [Bh,yL,aes h]
theorem aak {a b:Int} (c:oC a) (hb:oC b) (h:uN a=uN b):a=b:=by rw [<- Wj c,<- Wj hb,h]
abbrev fF (a:Int) (k:Nat):Bool:=(uN a).testBit k
theorem vT {a:Int} {f:Nat->Bool} (b:oC a) (h:∀ j,j<64->fF a j=f j):wI (eY f 64)=a:=by rw [IB (sJ a) h,Wj b]
theorem P7 {a:Int} (b:oC a):∃ n:Nat,n<2 ^ 63/\((a=n /\ ∀ j,fF a j=n.testBit j)\/(a = -(n+1:Int) /\ ∀ j,fF a j=(decide (j<64) && !n.testBit j))):=by
 obtain ⟨c,d⟩:=b;rcases Int.lt_or_le a 0 with h | h
 ·refine ⟨(-a - 1).toNat,by omega,.inr ⟨by omega,λj=>?_⟩⟩;(have e:uN a=2 ^ 64 - ((-a - 1).toNat+1):=by have:=nH a;omega);show (uN a).testBit j=_;rw [e,aeK (by omega)]
 refine ⟨a.toNat,by omega,.inl ⟨by omega,λj=>?_⟩⟩;(have e:uN a=a.toNat:=by have:=nH a;omega);show (uN a).testBit j=_;rw [e]
theorem kK (a:Int):(BitVec.ofInt 64 a).toNat=uN a:=by rw [BitVec.toNat_ofInt];have:=nH a;omega
theorem PU (x:Nat) {y:Nat} (h:y<2 ^ 64):x &&& y<2 ^ 64:=Nat.and_lt_two_pow x h
theorem Fj {x y:Nat} (hx:x<2 ^ 64) (h:y<2 ^ 64):x ||| y<2 ^ 64:=Nat.or_lt_two_pow hx h
theorem yJ {n:Nat} (h:n<2 ^ 64):IntKind.u64.wrap (n:Int)=n:=by rw [IntKind.wrap_u64];omega
theorem Y1 (a b:Int):bA .i64 a b=wI ((uN a &&& uN b:Nat):Int):=by
 unfold bA;rw [BitVec.toNat_and];show wI (((BitVec.ofInt 64 a).toNat &&& (BitVec.ofInt 64 b).toNat:Nat):Int)=_;rw [kK,kK]
theorem acL (a b:Int):bO .i64 a b=wI ((uN a ||| uN b:Nat):Int):=by
 unfold bO;rw [BitVec.toNat_or];show wI (((BitVec.ofInt 64 a).toNat ||| (BitVec.ofInt 64 b).toNat:Nat):Int)=_;rw [kK,kK]
theorem aaF (a b:Int):bX .i64 a b=wI ((uN a ^^^ uN b:Nat):Int):=by
 unfold bX;rw [BitVec.toNat_xor];show wI (((BitVec.ofInt 64 a).toNat ^^^ (BitVec.ofInt 64 b).toNat:Nat):Int)=_;rw [kK,kK]
theorem acM (a b:Int):bN .i64 a b=wI ((uN a &&& (2 ^ 64 - (uN b+1)):Nat):Int):=by
 unfold bN;rw [BitVec.toNat_and,BitVec.toNat_not];show wI (((BitVec.ofInt 64 a).toNat &&& (2 ^ 64 - 1 - (BitVec.ofInt 64 b).toNat):Nat):Int)=_;rw [kK,kK,Nat.sub_sub,ad9 1]
theorem PK {x y:Nat} (hx:x<2 ^ 64) (a:y<2 ^ 64):bA .u64 (x:Int) (y:Int)=((x &&& y:Nat):Int):=by
 unfold bA;rw [BitVec.toNat_and];show wU (((BitVec.ofInt 64 (x:Int)).toNat &&& (BitVec.ofInt 64 (y:Int)).toNat:Nat):Int)=_;rw [kK,kK,yL,yL,aes hx,aes a];exact yJ (PU _ a)
theorem YZ {x y:Nat} (hx:x<2 ^ 64) (a:y<2 ^ 64):bO .u64 (x:Int) (y:Int)=((x ||| y:Nat):Int):=by
 unfold bO;rw [BitVec.toNat_or];show wU (((BitVec.ofInt 64 (x:Int)).toNat ||| (BitVec.ofInt 64 (y:Int)).toNat:Nat):Int)=_;rw [kK,kK,yL,yL,aes hx,aes a];exact yJ (Fj hx a)
theorem IntKindX.wrap_i8 (n:Int):IntKind.i8.wrap n=(n+128) % 256 - 128:=by simp [IntKind.wrap,IntKind.bits,IntKind.signed];omega
theorem IntKindX.wrap_i16 (n:Int):IntKind.i16.wrap n=(n+32768) % 65536 - 32768:=by simp [IntKind.wrap,IntKind.bits,IntKind.signed];omega
theorem IntKindX.wrap_i32 (n:Int):IntKind.i32.wrap n=(n+2147483648) % 4294967296 - 2147483648:=by simp [IntKind.wrap,IntKind.bits,IntKind.signed];omega
theorem IntKindX.wrap_u8 (n:Int):IntKind.u8.wrap n=n % 256:=by simp [IntKind.wrap,IntKind.bits,IntKind.signed]
theorem IntKindX.wrap_u16 (n:Int):IntKind.u16.wrap n=n % 65536:=by simp [IntKind.wrap,IntKind.bits,IntKind.signed]
theorem IntKindX.wrap_u32 (n:Int):IntKind.u32.wrap n=n % 4294967296:=by simp [IntKind.wrap,IntKind.bits,IntKind.signed]
theorem zf (n k:Nat):(n:Int).fdiv (2 ^ k)=((n / 2 ^ k:Nat):Int):=by
 rw [aex _ (by exact Int.le_of_lt (Int.pow_pos (by decide)))];simp
def oN (a k:Int):Int:=wI (bA .u64 ((wU a).fdiv (2 ^ (min (wU k).toNat 64))) 1)
def Gv (a k v:Int):Int:=wI (bO .u64 (wU a) (wU (wU v*2 ^ (min (wU k).toNat 64))))
theorem aaR {k:Nat} (h:k<64):min (wU (k:Int)).toNat 64=k:=by rw [Bf,yL];simp;omega
theorem lC (a:Int) {k:Nat} (h:k<64):oN a k=jO (fF a k):=by
 have b:=sJ a;rw [oN,aaR h,Bf,zf,show (1:Int)=((1:Nat):Int)from rfl,PK (aed (aeR _ _) b) (by decide),Nat.and_one_is_mod];show wI _=_;unfold jO fF;rw [adI];rcases Nat.mod_two_eq_zero_or_one (uN a / 2 ^ k)with e | e <;> rw [e] <;> rfl
theorem Bg (f:Nat->Bool) {k:Nat} (h:k<64):Gv (wI (eY f k)) k (jO (f k))=wI (eY f (k+1)):=by
 have hb:=IC f k;have a:eY f k<2 ^ 64:=adt hb (adZ (by decide) (by omega));have hp:2 ^ k<2 ^ 64:=Nat.pow_lt_pow_right (by decide) h;rw [Gv,aaR h,Bf (wI _),FZ a,eY];cases f k with| true=>(have e:wU (wU (jO true)*2 ^ k)=((2 ^ k:Nat):Int):=by rw [show wU (jO true)=1 from rfl,Int.one_mul,show ((2:Int) ^ k)=((2 ^ k:Nat):Int) by simp];exact yJ hp);rw [e,YZ a hp,Nat.or_comm];congr 2;have:=Nat.two_pow_add_eq_or_of_lt hb 1;rw [Nat.mul_one]at this;rw [<- this,aaW rfl,ad9]| false=>(have e:wU (wU (jO false)*2 ^ k)=((0:Nat):Int):=by rw [show wU (jO false)=0 from rfl,Int.zero_mul];rfl);rw [e,YZ a (by decide),Nat.or_zero];rfl
def Cm (op:Int) (x y:Bool):Bool:=if op=21 then x&&y else if op=22 then x||y else if op=23 then x != y else if op=24 then x && !y else false
theorem Z5 {op a b:Int} (h:21<=op/\op<=24):wI (eY (λk=>Cm op (fF a k) (fF b k)) 64)=mF op a b:=by
 have d:=sJ a;have c:=sJ b;have key:∀ n:Nat,n<2 ^ 64->(∀ j,j<64->n.testBit j=Cm op (fF a j) (fF b j))->wI (eY (λk=>Cm op (fF a k) (fF b k)) 64)=wI n:=λn hn f=>by rw [IB hn f]
 have e:op=21\/op=22\/op=23\/op=24:=by omega
 rcases e with rfl | rfl | rfl | rfl
 ·rw [show mF 21 a b=bA .i64 a b from rfl,Y1];exact key _ (PU _ c) λj _=>Nat.testBit_and ..
 ·rw [show mF 22 a b=bO .i64 a b from rfl,acL];exact key _ (Fj d c) λj _=>Nat.testBit_or ..
 ·rw [show mF 23 a b=bX .i64 a b from rfl,aaF];exact key _ (Nat.xor_lt_two_pow d c) λj _=>Nat.testBit_xor ..
 rw [show mF 24 a b=bN .i64 a b from rfl,acM];refine key _ (aed Nat.and_le_left d) λj g=>?_;rw [Nat.testBit_and,aeK c,adg g];rfl
def vJ (a:Int) (b:Int) (z:Bool) (k:Nat):Bool:=if 0<=(k:Int) - b/\(k:Int) - b<64 then fF a ((k:Int) - b).toNat else z
def Yu (b:Int):Int:=if b>64 then 64 else b
theorem acE {b:Int} (hb:oC b) (h:0<=b):∃ n:Nat,n<=64/\Yu b=n/\min (wU b).toNat 64=n/\min b.toNat 64=n:=by
 refine ⟨min b.toNat 64,by omega,by unfold Yu;split <;> omega,?_,rfl⟩;have:wU b=b:=by rw [wU,IntKind.wrap_u64];omega
 rw [this]
theorem Zx {a:Int} {n:Nat}:wI (eY (vJ a n false) 64)=wI (a*2 ^ n):=by
 have e:uN (a*2 ^ n)=uN a*2 ^ n % 2 ^ 64:=by(have c:((uN (a*2 ^ n):Nat):Int)=((uN a*2 ^ n % 2 ^ 64:Nat):Int):=by rw [nH,Int.natCast_emod,Int.natCast_mul,nH,Int.natCast_pow];show a*2 ^ n % 18446744073709551616=a % 18446744073709551616*2 ^ n % 18446744073709551616;rw [Int.mul_emod,Int.mul_emod (a % 18446744073709551616) (2 ^ n),Int.emod_emod]);omega
 refine vT (pX _) λj b=>?_;show (uN (wI _)).testBit j=_;rw [Bh,e,Nat.testBit_mod_two_pow,Nat.testBit_mul_two_pow,adg b,adG,vJ];by_cases hn:n<=j
 ·rw [aaW (by omega),adg hn,adG,show ((j:Int) - n).toNat=j - n by omega]
 rw [MC (by omega),acU hn];rfl
theorem Wn {a:Int} {n:Nat}:wI (eY (vJ a (-(n:Int)) false) 64)=wI ((wU a).fdiv (2 ^ n)):=by
 have b:=sJ a;rw [Bf,zf];refine vT (pX _) λj c=>?_;show (uN (wI _)).testBit j=_;rw [FZ (aed (aeR _ _) b),Nat.testBit_div_two_pow,vJ];by_cases hn:j+n<64
 ·rw [aaW (by omega),show ((j:Int) - -(n:Int)).toNat=j+n by omega]
 rw [MC (by omega)];exact ad3 (adt b (adZ (by decide) (by omega)))
theorem FN {m j:Nat} (hm:m<2 ^ 63) (a:63<=j):m.testBit j=false:=ad3 (adt hm (adZ (by decide) a))
theorem ZW {m:Nat} (hm:m<2 ^ 63) (j:Nat):fF (-(m+1:Int)) j=(decide (j<64) && !m.testBit j):=by
 have e:uN (-(m+1:Int))=2 ^ 64 - (m+1):=by have:=nH (-(m+1:Int));omega
 show (uN _).testBit j=_;rw [e,aeK (by omega)]
theorem Sj {a:Int} {n:Nat} (d:oC a):wI (eY (vJ a (-(n:Int)) (fF a 63)) 64)=a.fdiv (2 ^ n):=by
 obtain ⟨m,hm,⟨rfl,hb⟩ | ⟨rfl,hb⟩⟩:=P7 d
 ·have hd:=aeR m (2 ^ n);rw [zf];obtain ⟨q,b⟩:∃ q,m / 2 ^ n=q:=⟨_,rfl⟩;rw [b]at hd ⊢;refine vT (by constructor <;> omega) λj c=>?_;(have e:uN (q:Int)=q:=by rw [yL];exact aes (by omega));show (uN _).testBit j=_;rw [e,<- b,Nat.testBit_div_two_pow,vJ,hb 63,FN hm (aa4 _)];by_cases hn:j+n<64;{rw [aaW (by omega),hb,show ((j:Int) - -(n:Int)).toNat=j+n by omega]};rw [MC (by omega)];exact FN hm (by omega)
 have hd:=aeR m (2 ^ n);(have e:(-(m+1:Int)).fdiv (2 ^ n) = -(((m / 2 ^ n:Nat):Int)+1):=by rw [aex _ (Int.le_of_lt (Int.pow_pos (by decide)))];have hp:(0:Int)<2 ^ n:=Int.pow_pos (by decide);show Int.negSucc m / 2 ^ n=_;rw [Int.negSucc_ediv m hp,Int.natCast_ediv,Int.natCast_pow];rfl);rw [e];obtain ⟨q,b⟩:∃ q,m / 2 ^ n=q:=⟨_,rfl⟩;rw [b]at hd ⊢;refine vT (by constructor <;> omega) λj c=>?_;rw [ZW (by omega),<- b,Nat.testBit_div_two_pow,vJ,hb 63,adg c,FN hm (aa4 _)];by_cases hn:j+n<64;{rw [aaW (by omega),hb,show ((j:Int) - -(n:Int)).toNat=j+n by omega,adg hn]};rw [MC (by omega),FN hm (by omega)];rfl
theorem acv (b:Int):bA .i64 b 63=((b % 64).toNat:Nat):=by
 have a:=nH b;rw [Y1,show uN 63=2 ^ 6 - 1 from rfl,aeD,wI,IntKind.wrap_i64];omega
theorem ZC {a b:Int}:wI (eY (λk=>fF a ((k+64 - (b % 64).toNat) % 64)) 64)=mF 28 a b:=by
 have c:=sJ a;obtain ⟨s,m⟩:∃ s,(b % 64).toNat=s:=⟨_,rfl⟩;have d:s<64:=by omega
 rw [show mF 28 a b=wI (Qq (wU a) (bA .i64 b 63))from rfl,acv,m];have e:bA .u64 (wU ((s:Nat):Int)) 63=((s:Nat):Int):=by rw [Bf,yL,show (63:Int)=((63:Nat):Int)from rfl,PK (by omega) (by decide),show 63=2 ^ 6 - 1 from rfl,aeD];omega
 have f:wU (64 - ((s:Nat):Int))=((64 - s:Nat):Int):=by rw [wU,IntKind.wrap_u64];omega
 have g:wU ((uN a:Int)*2 ^ s)=((uN a*2 ^ s % 2 ^ 64:Nat):Int):=by rw [wU,IntKind.wrap_u64];simp
 rw [Qq,e,f,ac9,ac9,aef (by omega:s<=64),aef (by omega:64 - s<=64),Bf a,zf,g,YZ (by omega) (aed (aeR _ _) c)];refine vT (pX _) λj l=>?_;show (uN (wI _)).testBit j=_;rw [FZ (Fj (by omega) (aed (aeR _ _) c)),Nat.testBit_or,Nat.testBit_mod_two_pow,Nat.testBit_mul_two_pow,Nat.testBit_div_two_pow,adg l,adG];by_cases h:s<=j
 ·rw [adg h,adG,ad3 (i:=j+(64 - s)) (adt c (adZ (by decide) (by omega))),Bool.or_false,show (j+64 - s) % 64=j - s by omega]
 rw [acU h,ad5,aew,show (j+64 - s) % 64=j+(64 - s) by omega]
def kZ (a:Int) (n:Nat) (sign:Bool) (k:Nat):Bool:=if k<n then fF a k else sign&&fF a (n - 1)
theorem wX {a x:Int} {n:Nat} (hn:n<=32) {sign:Bool} (hw:oC x) (hx:uN x=if (sign&&fF a (n - 1))=true then 2 ^ n*(2 ^ (64 - n) - 1)+uN a % 2 ^ n else uN a % 2 ^ n):wI (eY (kZ a n sign) 64)=x:=by
 refine vT hw λj c=>?_;have hm:uN a % 2 ^ n<2 ^ n:=aeU _ (Nat.two_pow_pos n);show (uN x).testBit j=_;rw [hx,kZ];split
 ·rename_i h;rw [aec _ hm,Nat.testBit_mod_two_pow,Nat.testBit_two_pow_sub_one,h];by_cases b:j<n;{rw [aaW b,aaW b,adg b,adG]};rw [MC b,MC b];exact adg (by omega)
 rename_i h;rw [Nat.testBit_mod_two_pow];by_cases b:j<n;{rw [aaW b,adg b,adG]};rw [MC b,acU b,ad5,Bool.eq_false_iff.2 h]
theorem wW (a:Int):wI (eY (kZ a 8 true) 64)=lD 10 a/\wI (eY (kZ a 16 true) 64)=lD 11 a/\wI (eY (kZ a 32 true) 64)=lD 12 a/\wI (eY (kZ a 8 false) 64)=lD 13 a/\wI (eY (kZ a 16 false) 64)=lD 14 a/\wI (eY (kZ a 32 false) 64)=lD 15 a:=by
 have h:=nH a;refine ⟨?_,?_,?_,?_,?_,?_⟩
 ·refine (wX (x:=wI (IntKind.i8.wrap a)) (by decide) (pX _) ?_).trans rfl;rw [Bh];have b:=nH (IntKind.i8.wrap a);rw [IntKindX.wrap_i8]at b ⊢;rw [adG,fF,adI];simp only [ab8];split <;> omega
 ·refine (wX (x:=wI (IntKind.i16.wrap a)) (by decide) (pX _) ?_).trans rfl;rw [Bh];have b:=nH (IntKind.i16.wrap a);rw [IntKindX.wrap_i16]at b ⊢;rw [adG,fF,adI];simp only [ab8];split <;> omega
 ·refine (wX (x:=wI (IntKind.i32.wrap a)) (by decide) (pX _) ?_).trans rfl;rw [Bh];have b:=nH (IntKind.i32.wrap a);rw [IntKindX.wrap_i32]at b ⊢;rw [adG,fF,adI];simp only [ab8];split <;> omega
 ·refine (wX (x:=wI (IntKind.u8.wrap a)) (by decide) (pX _) ?_).trans rfl;rw [Bh];have b:=nH (IntKind.u8.wrap a);rw [IntKindX.wrap_u8]at b ⊢;rw [ad5];simp only [adx,adA];omega
 ·refine (wX (x:=wI (IntKind.u16.wrap a)) (by decide) (pX _) ?_).trans rfl;rw [Bh];have b:=nH (IntKind.u16.wrap a);rw [IntKindX.wrap_u16]at b ⊢;rw [ad5];simp only [adx,adA];omega
 refine (wX (x:=wI (IntKind.u32.wrap a)) (by decide) (pX _) ?_).trans rfl;rw [Bh];have b:=nH (IntKind.u32.wrap a);rw [IntKindX.wrap_u32]at b ⊢;rw [ad5];simp only [adx,adA];omega
theorem TU (a:Int) {k:Nat} (h:k<64):bA .u64 ((wU a).fdiv (2 ^ min k 64)) 1=(if fF a k then 1 else 0:Nat):=by
 rw [aef (by omega),Bf,zf,show (1:Int)=((1:Nat):Int)from rfl,PK (aed (aeR _ _) (sJ a)) (by decide),Nat.and_one_is_mod,fF,adI];rcases Nat.mod_two_eq_zero_or_one (uN a / 2 ^ k)with e | e <;> rw [e] <;> rfl
theorem TA (a:Int):∀ k,k<=64 -> ∃ n:Nat,AY a k=n/\n<2 ^ 64 /\ ∀ j,j<64->n.testBit j=(decide (63 - j<k)&&fF a (63 - j))
 | 0,_=>⟨0,rfl,by decide,λj d=>by simp⟩
 | k+1,hk=>by obtain ⟨n,f,c,g⟩:=TA a k (by omega);have hp:2 ^ (63 - k)<2 ^ 64:=Nat.pow_lt_pow_right (by decide) (by omega);(have hm:min (63 - k) 64=63 - k:=by omega);cases hb:fF a k with| true=>refine ⟨n ||| 2 ^ (63 - k),?_,Fj c hp,λj d=>?_⟩;{rw [AY,TU a (by omega),hb,f,aaW rfl,hm,show ((1:Nat):Int)*2 ^ (63 - k)=((2 ^ (63 - k):Nat):Int) by simp,show wU ((2 ^ (63 - k):Nat):Int)=_ from yJ hp,YZ c hp]};rw [Nat.testBit_or,g j d,Nat.testBit_two_pow];by_cases e:63 - k=j;{rw [show 63 - j=k by omega,hb];simp [e]};rw [acU e,Bool.or_false];by_cases b:63 - j<k;{rw [adg b,adg (by omega:63 - j<k+1)]};rw [acU b,acU (by omega:¬ 63 - j<k+1)]| false=>refine ⟨n,?_,c,λj d=>?_⟩;{rw [AY,TU a (by omega),hb,f];rw [show wU (((if false=true then 1 else 0:Nat):Int)*2 ^ (min (63 - k) 64))=((0:Nat):Int) by simp;rfl,YZ c (by decide),Nat.or_zero]};rw [g j d];by_cases e:63 - j=k;{rw [e,hb,Bool.and_false,Bool.and_false]};by_cases b:63 - j<k;{rw [adg b,adg (by omega:63 - j<k+1)]};rw [acU b,acU (by omega:¬ 63 - j<k+1)]
theorem Yp (a:Int):wI (eY (λk=>fF a (63 - k)) 64)=OU a:=by
 obtain ⟨n,b,c,d⟩:=TA a 64 (aa4 _);rw [OU,b,IB c λj e=>?_];rw [d j e,adg (by omega),adG]
def EU (a:Int):Nat->Nat
 | 0=>0
 | k+1=>if fF a k then 0 else EU a k+1
theorem J4 {a:Int} {L:Nat} (c:uN a<2 ^ L) (b:L=0\/2 ^ (L - 1)<=uN a):∀ k,L<=k->EU a k=k - L
 | 0,h=>by simp [EU]
 | k+1,h=>by rcases adf k L with hk | hk;{(obtain rfl:L=k+1:=by omega);(have hb:fF a k=true:=by refine Nat.testBit_of_two_pow_le_and_two_pow_add_one_gt ?_ c;rcases b with b | b;{omega};simpa using b);rw [EU,aaW hb];omega};have hb:fF a k=false:=ad3 (adt c (adZ (by decide) hk));rw [EU,MC (by rw [hb];decide),J4 c b k hk];omega
theorem XW (a:Int):((EU a 64:Nat):Int)=lD 5 a:=by
 rw [show lD 5 a=64 - (Go.Lib.bitLen (wU a).toNat:Int)from rfl];show _=64 - (Go.Lib.bitLenAux 64 (uN a):Int);by_cases b:uN a=0
 ·rw [J4 (L:=0) (by omega) (.inl rfl) 64 (by omega),b,Go.Lib.bitLenAux_zero];rfl
 obtain ⟨f,c,d⟩:=Go.Lib.bitLenAux_bounds 64 (uN a) (sJ a) b;have e:Go.Lib.bitLenAux 64 (uN a)<=64:=Go.Lib.bitLenAux_le 64 _ 64 (sJ a);rw [J4 d (.inr c) 64 e];omega
def Ac (a:Int):Nat->Nat
 | 0=>0
 | k+1=>if fF a (63 - k)then 0 else Ac a k+1
theorem RN {a:Int} {c m:Nat} (hc:c<64) (h:uN a=2 ^ c*(2*m+1)):∀ k,k<=64->64 - c<=k->Ac a k=k - (64 - c)
 | 0,_,h2=>by omega
 | k+1,h1,h2=>by(have hb:fF a (63 - k)=(decide (63 - k>=c)&&(2*m+1).testBit (63 - k - c)):=by show (uN a).testBit _=_;rw [h,Nat.testBit_two_pow_mul]);rcases adf (63 - k) c with hk | hk;{rw [Ac,hb,acU (by omega),ad5,MC (by decide),RN hc h k (by omega) (by omega)];omega};rw [Ac,hb,adg hk,show 63 - k - c=0 by omega,Nat.testBit_zero,show (2*m+1) % 2=1 by omega,aaW (by decide)];omega
theorem I8 {a:Int} (h:uN a=0):∀ k,Ac a k=k
 | 0=>rfl
 | k+1=>by rw [Ac,fF,h,Nat.zero_testBit,MC (by decide),I8 h k]
theorem Jd (a:Int):((Ac a 64:Nat):Int)=lD 6 a:=by
 rw [show lD 6 a=((Go.Lib.ctz 64 (wU a).toNat:Nat):Int)from rfl];show _=((Go.Lib.ctz 64 (uN a):Nat):Int);by_cases b:uN a=0
 ·rw [I8 b,b];rfl
 obtain ⟨m,c,d⟩:=Go.Lib.ctzFrom_spec 64 (uN a) (by omega) (sJ a);rw [RN d c 64 (aa4 _) (by omega),Go.Lib.ctz,MC b];omega
def wG (f:Nat->Bool):Nat->Nat
 | 0=>0
 | k+1=>wG f k+(if f k then 1 else 0)
theorem KQ (f:Nat->Bool):∀ k,wG f k<=k
 | 0=>aa4 _
 | k+1=>by have:=KQ f k;rw [wG];split <;> omega
theorem Aq {f g:Nat->Bool}:∀ {k},(∀ j,j<k->f j=g j)->wG f k=wG g k
 | 0,_=>rfl
 | k+1,h=>by rw [wG,wG,Aq (λj a=>h j (by omega)),h k (by omega)]
theorem Og (f:Nat->Bool) (n:Nat):∀ k,wG f (n+k)=wG f n+wG (λj=>f (n+j)) k
 | 0=>rfl
 | k+1=>by rw [<- adK,wG,Og f n k,wG,adK]
def gQ:List Nat->Nat
 | []=>0
 | b::l=>b+256*gQ l
def EZ (c:Nat):Nat->Nat
 | 0=>0
 | k+1=>c+256*EZ c k
theorem and_split {b c:Nat} (y z:Nat) (hb:b<256) (hc:c<256):(b+256*y) &&& (c+256*z)=(b &&& c)+256*(y &&& z):=by
 have a:b &&& c<2 ^ 8:=Nat.and_lt_two_pow b hc;refine Nat.eq_of_testBit_eq λj=>?_;rw [Nat.testBit_and,ad9 b,ad9 c,ad9 (b &&& c),show (256:Nat)=2 ^ 8 from rfl,aec _ hb,aec _ hc,aec _ a];split
 ·rw [Nat.testBit_and]
 rw [Nat.testBit_and]
def IW (b:Nat):Nat:=(b / 2 &&& 85)+(b &&& 85)
def MG (b:Nat):Nat:=(b / 4 &&& 51)+(b &&& 51)
def g3B (b:Nat):Nat:=(b / 16+b) % 16
theorem ac5:∀ b:_root_.Fin 128,∀ c:_root_.Fin 2,(b.val+128*c.val) &&& 85=b.val &&& 85:=by decide+kernel
theorem ac4:∀ b:_root_.Fin 64,∀ c:_root_.Fin 4,(b.val+64*c.val) &&& 51=b.val &&& 51:=by decide+kernel
theorem acA:∀ b:_root_.Fin 256,g3B (MG (IW b.val))=wG b.val.testBit 8:=by decide+kernel
theorem acB:∀ b:_root_.Fin 256,IW b.val<256:=by decide+kernel
theorem aaU:∀ b:_root_.Fin 256,MG b.val<256/\MG (IW b.val) % 16<=4/\MG (IW b.val) / 16<=4:=by decide+kernel
theorem aaP:∀ l:List Nat,(∀ b∈l,b<256)->(gQ l / 2 &&& EZ 85 l.length)+(gQ l &&& EZ 85 l.length)=gQ (l.map IW)
 | [],_=>rfl
 | b::l,h=>by have a:=aaP l (λc hc=>h c (adv _ hc));have hb:b<256:=h b adO;have e:=ac5 ⟨b / 2,by omega⟩ ⟨gQ l % 2,by omega⟩;simp only at e;rw [aev,gQ,gQ,adQ,EZ,show (b+256*gQ l) / 2=(b / 2+128*(gQ l % 2))+256*(gQ l / 2) by omega,and_split _ _ (by omega) (by decide),and_split _ _ hb (by decide),e,<- a,IW];omega
theorem aaO:∀ l:List Nat,(∀ b∈l,b<256)->(gQ l / 4 &&& EZ 51 l.length)+(gQ l &&& EZ 51 l.length)=gQ (l.map MG)
 | [],_=>rfl
 | b::l,h=>by have a:=aaO l (λc hc=>h c (adv _ hc));have hb:b<256:=h b adO;have e:=ac4 ⟨b / 4,by omega⟩ ⟨gQ l % 4,by omega⟩;simp only at e;rw [aev,gQ,gQ,adQ,EZ,show (b+256*gQ l) / 4=(b / 4+64*(gQ l % 4))+256*(gQ l / 4) by omega,and_split _ _ (by omega) (by decide),and_split _ _ hb (by decide),e,<- a,MG];omega
theorem aaN:∀ l:List Nat,(∀ b∈l,b % 16<=4/\b / 16<=4)->(gQ l / 16+gQ l) &&& EZ 15 l.length=gQ (l.map g3B)/\gQ l % 16<=4
 | [],_=>⟨rfl,by decide⟩
 | b::l,h=>by obtain ⟨a,f⟩:=aaN l (λc hc=>h c (adv _ hc));obtain ⟨d,e⟩:=h b adO;refine ⟨?_,by rw [gQ];omega⟩;rw [aev,gQ,gQ,adQ,EZ,show (b+256*gQ l) / 16+(b+256*gQ l)=(b / 16+16*(gQ l % 16)+b)+256*(gQ l / 16+gQ l) by omega,and_split _ _ (by omega) (by decide),a,g3B,show 15=2 ^ 4 - 1 from rfl,aeD];omega
theorem KY:∀ l:List Nat,(∀ b∈l,b<256)->gQ l<256 ^ l.length
 | [],_=>by decide
 | b::l,h=>by have:=KY l (λc hc=>h c (adv _ hc));have hb:b<256:=h b adO;rw [gQ,adQ,Nat.pow_succ];omega
theorem SH:∀ l:List Nat,(∀ b∈l,b<256)->wG (gQ l).testBit (8*l.length)=(l.map λb=>wG b.testBit 8).sum
 | [],_=>rfl
 | b::l,h=>by have hb:b<2 ^ 8:=h b adO;rw [aev,List.sum_cons,<- SH l (λc hc=>h c (adv _ hc)),adQ,show 8*(l.length+1)=8+8*l.length by omega,Og,gQ,ad9 b];congr 1;{exact Aq λj a=>by rw [show (256:Nat)=2 ^ 8 from rfl,aec _ hb,aaW a]};exact Aq λj a=>by rw [show (256:Nat)=2 ^ 8 from rfl,aec _ hb,MC (by omega),Nat.add_sub_cancel_left]
theorem PG:∀ (k x:Nat),x<256 ^ k -> ∃ l:List Nat,l.length=k/\(∀ b∈l,b<256)/\gQ l=x
 | 0,x,h=>⟨[],rfl,(λ_ h=>nomatch h),by rw [Nat.pow_zero]at h;simp only [gQ];omega⟩
 | k+1,x,h=>by rw [Nat.pow_succ]at h;obtain ⟨l,a,c,d⟩:=PG k (x / 256) (by omega);refine ⟨x % 256::l,by simp [a],λb hb=>?_,by rw [gQ,d];omega⟩;rcases List.mem_cons.1 hb with rfl | hb;{omega};exact c b hb
theorem Dh (x:Nat) {d:Int} {n:Nat} (hd:d=(n:Nat)):(x:Int).fdiv d=((x / n:Nat):Int):=by
 subst hd;rw [aex _ (by omega)];simp
def zU:List Nat->List Nat->List Nat
 | a::l,b::m=>(a+b)::zU l m
 | [],m=>m
 | l,[]=>l
theorem Ox:∀ l m,gQ (zU l m)=gQ l+gQ m
 | a::l,b::m=>by rw [zU,gQ,gQ,gQ,Ox l m];omega
 | [],m=>by rw [zU,gQ];omega
 | a::l,[]=>by rw [zU];rfl;exact λh=>nomatch h
theorem Ua {A B:Nat}:∀ {l m:List Nat},(∀ b∈l,b<=A)->(∀ b∈m,b<=B) -> ∀ b∈zU l m,b<=A+B
 | a::l,b::m,h1,h2,x,hx=>by rw [zU]at hx;rcases List.mem_cons.1 hx with rfl | hx;{have:=h1 a adO;have:=h2 b adO;omega};exact Ua (λc hc=>h1 c (adv _ hc)) (λc hc=>h2 c (adv _ hc)) x hx
 | [],m,h1,h2,x,hx=>by rw [zU]at hx;have:=h2 x hx;omega
 | a::l,[],h1,h2,x,hx=>by rw [zU]at hx;have:=h1 x hx;omega;exact λh=>nomatch h
theorem Pj:∀ (k:Nat) (l:List Nat),(∀ b∈l,b<256)->gQ l / 256 ^ k=gQ (l.drop k)
 | 0,l,_=>by simp
 | k+1,[],_=>by simp [gQ]
 | k+1,b::l,h=>by have hb:=h b adO;rw [List.drop_succ_cons,<- Pj k l (λc hc=>h c (adv _ hc)),Nat.pow_succ,aeo,<- Nat.div_div_eq_div_mul,gQ];congr 1;omega
theorem UU {n k:Nat} (h:n+n / k<2 ^ 64):qE (k:Int) (n:Int)=((n+n / k:Nat):Int):=by
 rw [qE,Dh n (n:=k) rfl,<- Int.natCast_add];exact yJ h
theorem XI {A:Nat}:∀ l:List Nat,(∀ b∈l,b<=A)->gQ l*255+A<=A*256 ^ l.length
 | [],_=>by simp [gQ]
 | b::l,h=>by have a:=XI l (λc hc=>h c (adv _ hc));have hb:=h b adO;rw [gQ,adQ,Nat.pow_succ,<- Nat.mul_assoc];generalize A*256 ^ l.length=P at a ⊢;omega
theorem XA {l:List Nat} {A K:Nat} (hl:l.length=8) (hA:∀ b∈l,b<=A) (h:A+A<256) (k:Nat) (g:K=256 ^ k):qE (K:Int) (gQ l:Int)=gQ (zU l (l.drop k))/\(∀ b∈zU l (l.drop k),b<=A+A)/\gQ (zU l (l.drop k))<2 ^ 64/\(zU l (l.drop k)).length=8:=by
 subst g;have hb:=Ua hA (λb hb=>hA b (List.drop_subset k l hb));have e:gQ l+gQ l / 256 ^ k=gQ (zU l (l.drop k)):=by rw [Pj k l λb hb=>aed (hA b hb) (by omega),Ox]
 have hlen:∀ l m:List Nat,m.length<=l.length->(zU l m).length=l.length:=λl=>by
  induction l with
  | nil=>intro m h;cases m with
   | nil=>rfl
   | cons=>cases h
  | cons a l i=>intro m h;cases m with
   | nil=>rfl
   | cons b m=>exact acY (· + 1) (i m (Nat.le_of_succ_le_succ h))
 have c:=KY _ (λb f=>aed (hb b f) h);have d:=hlen l (l.drop k) (by rw [aeM];omega);rw [hl]at d;rw [d]at c;exact ⟨by rw [UU (by rw [e];exact c),e],hb,c,d⟩
theorem Xy {x:Nat} (h:x<2 ^ 64):GL x=wG x.testBit 64:=by
 obtain ⟨l,hl,hb,rfl⟩:=PG 8 x h;have hp:=SH l hb;rw [hl]at hp;rw [hp];have e:∀ b∈l.map IW,b<256:=by rintro b a;obtain ⟨c,hc,rfl⟩:=List.mem_map.1 a;exact acB ⟨c,hb c hc⟩
 have f:∀ b∈(l.map IW).map MG,b<256/\b % 16<=4/\b / 16<=4:=by rintro b a;obtain ⟨c,hc,rfl⟩:=List.mem_map.1 a;obtain ⟨d,hd,rfl⟩:=List.mem_map.1 hc;exact ⟨(aaU ⟨_,e _ hc⟩).1,(aaU ⟨d,hb d hd⟩).2⟩
 have j:=aaP l hb;have k:=aaO _ e;have s:=(aaN _ (λb g=>(f b g).2)).1;have n1:=KY _ e;have n2:=KY _ (λb g=>(f b g).1);simp only [adN,hl]at j k s n1 n2;have o:EZ 85 8=6148914691236517205:=rfl;have p:EZ 51 8=3689348814741910323:=rfl;have r:EZ 15 8=1085102592571150095:=rfl;rw [o]at j;rw [p]at k;rw [r]at s;have m:BX (gQ l)=((gQ (l.map IW):Nat):Int):=by rw [BX,Dh _ (d:=2) (n:=2) rfl,show (6148914691236517205:Int)=((6148914691236517205:Nat):Int)from rfl,PK (by omega) (by decide),PK h (by decide),<- j,<- Int.natCast_add];exact yJ (by rw [j];omega)
 have e2:Et (gQ (l.map IW))=((gQ ((l.map IW).map MG):Nat):Int):=by rw [Et,Dh _ (d:=4) (n:=4) rfl,show (3689348814741910323:Int)=((3689348814741910323:Nat):Int)from rfl,PK (by omega) (by decide),PK (by omega) (by decide),<- k,<- Int.natCast_add];exact yJ (by rw [k];omega)
 have i:gQ ((l.map IW).map MG) / 16+gQ ((l.map IW).map MG)<2 ^ 64:=by(have hlen2:((l.map IW).map MG).length=8:=by simp [hl]);have t:=XI (A:=79) _ (λb g=>show b<=79 by have:=(f b g).2;omega);rw [hlen2,show 256 ^ 8=18446744073709551616 from rfl]at t;generalize gQ ((l.map IW).map MG)=X at t ⊢;omega
 have e3:GN (gQ ((l.map IW).map MG))=((gQ (((l.map IW).map MG).map g3B):Nat):Int):=by rw [GN,Dh _ (d:=16) (n:=16) rfl,<- Int.natCast_add,wU,yJ i,show (1085102592571150095:Int)=((1085102592571150095:Nat):Int)from rfl,PK i (by decide),s]
 rw [GL,m,e2,e3];have u:(l.map λb=>wG b.testBit 8)=((l.map IW).map MG).map g3B:=by rw [List.map_map,List.map_map];exact List.map_congr_left λb a=>(acA ⟨b,hb b a⟩).symm
 rw [u];have hd:∀ b∈((l.map IW).map MG).map g3B,b<=8:=by rw [<- u];rintro b a;obtain ⟨c,hc,rfl⟩:=List.mem_map.1 a;exact KQ _ _
 have hlen:(((l.map IW).map MG).map g3B).length=8:=by simp [hl]
 generalize ((l.map IW).map MG).map g3B=q at *;match q,hlen with| [c0,c1,c2,c3,c4,c5,c6,c7],_=>simp only [ad2,List.not_mem_nil,or_false,forall_eq_or_imp,forall_eq]at hd;obtain ⟨y,d1,d2,d3,d4,d5,d6,d7⟩:=hd;(have hq:∀ b∈[c0,c1,c2,c3,c4,c5,c6,c7],b<=8:=by simp only [ad2,List.not_mem_nil,or_false,forall_eq_or_imp,forall_eq];exact ⟨y,d1,d2,d3,d4,d5,d6,d7⟩);obtain ⟨o,v,_,g1⟩:=XA (l:=[c0,c1,c2,c3,c4,c5,c6,c7]) (K:=256) rfl hq (by decide) 1 rfl;obtain ⟨p,w,_,g2⟩:=XA (K:=65536) g1 v (by decide) 2 rfl;obtain ⟨r,b3,k3,_⟩:=XA (K:=4294967296) g2 w (by decide) 4 rfl;have m:qE 4294967296 (qE 65536 (qE 256 (gQ [c0,c1,c2,c3,c4,c5,c6,c7])))=_:=((acY (λz=>qE 4294967296 (qE 65536 z)) o).trans (acY (λz=>qE 4294967296 z) p)).trans r;rw [m];rw [Y1,FZ k3,show uN 127=2 ^ 7 - 1 from rfl,aeD,wI,IntKind.wrap_i64];simp only [List.sum_cons,List.sum_nil];simp only [zU,List.drop];rw [gQ];generalize gQ _=Z;omega
theorem Xz (a:Int):((wG (fF a) 64:Nat):Int)=lD 4 a:=by
 rw [show lD 4 a=GL (wU a)from rfl,Bf,Xy (sJ a)]
def tJ (a b:Int) (k:Nat) (s:Int×Int):Int×Int :=
 if fF b k=false then (wI (wI (s.1*2)+wI (s.2.fdiv 9223372036854775808)),wU (s.2*2))else
 if k=63 then
  (if wU (s.2*2)<wU a then (wI (wI (wI (wI (s.1*2)+wI (s.2.fdiv 9223372036854775808)) - a.fdiv 9223372036854775808) - 1),wU (wU (s.2*2) - wU a))else (wI (wI (wI (s.1*2)+wI (s.2.fdiv 9223372036854775808)) - a.fdiv 9223372036854775808),wU (wU (s.2*2) - wU a)))
 else
  (if wU (wU (s.2*2)+wU a)<wU (s.2*2)then (wI (wI (wI (wI (s.1*2)+wI (s.2.fdiv 9223372036854775808))+a.fdiv 9223372036854775808)+1),wU (wU (s.2*2)+wU a))else (wI (wI (wI (s.1*2)+wI (s.2.fdiv 9223372036854775808))+a.fdiv 9223372036854775808),wU (wU (s.2*2)+wU a)))
def Zj (a b:Int):Nat->Int×Int
 | 0=>(0,0)
 | m+1=>tJ a b (63 - m) (Zj a b m)
def EW (b:Int):Nat->Int
 | 0=>0
 | m+1=>2*EW b m+(if fF b (63 - m)=true then (if m=0 then -1 else 1)else 0)
theorem Yv (x:Int):x.fdiv 9223372036854775808=x / 9223372036854775808:=aex _ (by decide)
theorem Wi {a b acc:Int} {k:Nat} {s:Int×Int} (e:oC a) (c:s.1=wI (acc / 18446744073709551616)) (d:s.2=acc % 18446744073709551616) :
 (tJ a b k s).1=wI ((2*acc+(if fF b k=true then (if k=63 then -a else a)else 0)) / 18446744073709551616)/\(tJ a b k s).2=(2*acc+(if fF b k=true then (if k=63 then -a else a)else 0)) % 18446744073709551616:=by
 obtain ⟨hi,lo⟩:=s;simp only at c d;unfold tJ wI wU;simp only [Yv,IntKind.wrap_i64,IntKind.wrap_u64]at *
 obtain ⟨g1,f⟩:=e;cases hb:fF b k with
 | false=>simp only [adT,adx,adA];subst c d;constructor <;> omega
 | true =>
  simp only [Bool.true_eq_false,adA,adT];by_cases hk:k=63
  ·simp only [hk,adT];subst c d;split <;> constructor <;> simp only <;> omega
  ·simp only [hk,adA];subst c d;split <;> constructor <;> simp only <;> omega
theorem P9 {a b:Int} (c:oC a):∀ m,m<=64->(Zj a b m).1=wI (a*EW b m / 18446744073709551616)/\(Zj a b m).2=a*EW b m % 18446744073709551616
 | 0,_=>by rw [EW,Int.mul_zero];exact ⟨rfl,rfl⟩
 | m+1,h=>by obtain ⟨f,i2⟩:=P9 (b:=b) c m (by omega);have d:=Wi (b:=b) (k:=63 - m) c f i2;(have e:2*(a*EW b m)+(if fF b (63 - m)=true then (if 63 - m=63 then -a else a)else 0)=a*EW b (m+1):=by rw [EW,Int.mul_add,<- Int.mul_assoc a 2,Int.mul_comm a 2,Int.mul_assoc 2];congr 1;cases fF b (63 - m)with| false=>simp| true=>by_cases hm:m=0;{simp [hm]};simp [hm,show ¬ 63 - m=63 by omega]);rw [e]at d;exact d
theorem MW {b:Int}:∀ m,m<64->EW b (m+1)=((uN b / 2 ^ (63 - m):Nat):Int) - (if fF b 63=true then 2 ^ (m+1)else 0)
 | 0,_=>by have f:=sJ b;rw [EW,EW];simp only [adT,Nat.sub_zero];rw [fF,adI];simp only [ab8];split <;> simp <;> omega
 | m+1,h=>by have e:=MW (b:=b) m (by omega);rw [EW,e,MC (by omega:¬ m+1=0)];(have a:uN b / 2 ^ (63 - m)=uN b / 2 ^ (63 - (m+1)) / 2:=by rw [show 63 - m=(63 - (m+1))+1 by omega,Nat.pow_succ,<- Nat.div_div_eq_div_mul]);have c:fF b (63 - (m+1))=decide (uN b / 2 ^ (63 - (m+1)) % 2=1):=adI;rw [a,c];(have d:(2:Int) ^ (m+1+1)=2*2 ^ (m+1):=by rw [Int.pow_succ];omega);rw [d];generalize uN b / 2 ^ (63 - (m+1))=q;generalize (2:Int) ^ (m+1)=w;simp only [ab8];split <;> split <;> omega
theorem MX {b:Int} (hb:oC b):EW b 64=b:=by
 have h:=MW (b:=b) 63 (by omega);have d:=nH b;rw [h,fF,adI];simp only [ab8];obtain ⟨a,c⟩:=hb;split <;> simp <;> omega
theorem MP {a b:Int} (i:oC a) (hb:oC b):Zj a b 64=(wI (oD a b),wM a b):=by
 obtain ⟨g,h⟩:=P9 (b:=b) i 64 (aa4 _);rw [MX hb]at g h;have l:=nH a;have m:=nH b;obtain ⟨P,f⟩:∃ P:Nat,P=uN a*uN b:=⟨_,rfl⟩;have k:Td a b=((P / 18446744073709551616:Nat):Int):=by rw [f];rfl
 have hl:wM a b=((P % 18446744073709551616:Nat):Int):=by rw [f];rfl
 have e:a*b=(P:Int) - (if a<0 then 18446744073709551616*(uN b:Int)else 0) - (if b<0 then 18446744073709551616*(uN a:Int)else 0)+(if a<0/\b<0 then 18446744073709551616*18446744073709551616 else 0):=by rw [f,Int.natCast_mul];obtain ⟨a1,n⟩:=i;obtain ⟨o,p⟩:=hb;(have j:(uN a:Int)=a+(if a<0 then 18446744073709551616 else 0):=by split <;> omega);(have eb:(uN b:Int)=b+(if b<0 then 18446744073709551616 else 0):=by split <;> omega);rw [j,eb];by_cases d:a<0;{by_cases c:b<0;{simp only [d,c,adT,and_self,Int.add_mul,Int.mul_add];omega};simp only [d,c,adT,adA,and_false,Int.add_mul,Int.mul_add];omega};by_cases c:b<0;{simp only [d,c,adT,adA,false_and,Int.add_mul,Int.mul_add];omega};simp only [d,c,adA,false_and,Int.add_mul,Int.mul_add];omega
 have q:=sJ a;have r:=sJ b;refine Prod.ext ?_ ?_
 ·rw [g];show wI _=wI _;rw [oD,Hu,k,e];unfold wI wU;simp only [IntKind.wrap_i64,IntKind.wrap_u64];by_cases d:a<0 <;> by_cases c:b<0 <;> simp only [d,c,adT,adA,and_self,and_false,false_and] <;> omega
 rw [h];show _=wM a b;rw [hl,e];by_cases d:a<0 <;> by_cases c:b<0 <;> simp only [d,c,adT,adA,and_self,and_false,false_and] <;> omega
end Go.Ab
