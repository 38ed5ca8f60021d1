/- Part 20 of a proof of a statement about the given program: an abstract machine over the model, proved sound, and contracts of the functions that the statement reaches; the last part proves the statement, for every input, with no condition. -/
import Derived.Test.YtcfelhfcjdofoaaGreatDoorX17
import Derived.Test.YtcfelhfcjdofoaaGreatDoorX18
import Derived.Test.YtcfelhfcjdofoaaGreatDoorX15
import Derived.Test.YtcfelhfcjdofoaaGreatDoorX13
import Derived.Lib.ItoaNum
set_option autoImplicit false
set_option linter.unusedSimpArgs false
set_option linter.unusedVariables false
set_option maxHeartbeats 4000000
set_option maxRecDepth 20000
namespace Go.Ab
open Go.Proofs Go.Sort
structure BT where
 k:_root_.Fin 8
 n:_root_.Fin 8
 w:Bool
 deriving DecidableEq
def jS:BT:=⟨0,0,false⟩
instance:Inhabited BT:=⟨jS⟩
def BT.t (x:BT):Qc:=⟨(x.k.val:Nat),(x.n.val:Nat),x.w⟩
def fJ (x:BT):AV:=vS x.t
def Qk (x:BT):List Value:=[.int .i64 (x.k.val:Nat),.int .i64 (x.n.val:Nat),.bool x.w]
theorem dP (ids:List Id) (x:BT):fZ ids (fJ x)=true:=rfl
theorem acG (x y:AV):x.put [] y=y:=by cases x <;> rfl
theorem jF (a:Id->Id) (x:BT):ren a (fJ x)=fJ x:=bH (λq=>by match q with | 0 | 1 | 2 | q+3=>rfl)
theorem YL (x:BT):EY T aH 5 (fJ x)=some (Qk x):=rfl
theorem ab6:acp T aH 134 3 fJ Qk where
 len _:=rfl
 one x v hv:=by simp [Qk]at hv;rcases hv with rfl | rfl | rfl <;> rfl
 rep I ρ x:=(Pm (YL x)).1 I ρ
 uni I ρ x cs h:=(Pm (YL x)).2 I ρ cs h
 fits x:=rfl
 pack x:=rfl
 size:=rfl
 pos:=by decide
def IU (x y:BT):Int:=if x.k≠y.k then (x.k.val:Int) - y.k.val else (x.n.val:Int) - y.n.val
theorem Zi (x y:BT):AC Tryz.prog T aH 222 [fJ x,fJ y] [] (.int (IU x y)) []:=by
 refine aX Tryz.func222 ?_;refine sg rfl (sq (sq (rg [] rfl ?_)));refine cd rfl (λb=>?_) (λb=>?_)
 ·(have c:x.k≠y.k:=by intro e;have a:(((x.k.val:Nat):Int) != ((y.k.val:Nat):Int))=true:=b;rw [e]at a;simp at a);refine sg rfl (rX ?_);refine bf hT (by rfl) ?_;rw [IU,aa2 c];show IntKind.i64.wrap (((x.k.val:Nat):Int) - ((y.k.val:Nat):Int))=_;exact bK (by omega) (by omega)
 (have he:x.k=y.k:=by have a:(((x.k.val:Nat):Int) != ((y.k.val:Nat):Int))=false:=b;simp at a;omega);refine sk (sq (rg [] rfl ?_));refine rX ?_;refine bf hT (by rfl) ?_;rw [IU,xw (λh=>h he)];show IntKind.i64.wrap (((x.n.val:Nat):Int) - ((y.n.val:Nat):Int))=_;exact bK (by omega) (by omega)
theorem C9 (x y:BT):Go.Proofs.ltOf IU x y=decide (x.k.val<y.k.val\/x.k.val=y.k.val/\x.n.val<y.n.val):=by
 unfold Go.Proofs.ltOf;apply decide_eq_decide.2;simp only [IU];grind
theorem Nr:SWO (Go.Proofs.ltOf IU) where
 irrefl x:=by rw [C9];simp
 trans x y z h1 h2:=by rw [C9]at *;simp at *;omega
 ntrans x y z h1 h2:=by rw [C9]at *;simp at *;omega
def zZ (l:List BT):Ob:=dn 134 fJ default l
def jw (l:List BT):List BT:=jh IU l
theorem Wh (l:List BT) (hl:l.length<4611686018427387904):AC Tryz.prog T aH 221 [.own (.b 0) l.length 0 l.length none,.clo 222 []] [zZ l] (.tup []) [zZ (jw l)] :=
 WW hT Tryz.laySortA ab6 Tryz.isAgg134 Tryz.sizeOf134 Nr (enters_of Tryz.func222 rfl rfl) Zi ⟨_,Tryz.func221,rfl,rfl⟩ l hl
theorem MN (f g:BT):(f==g)=(((f.k.val:Nat):Int)==((g.k.val:Nat):Int)&&(((f.n.val:Nat):Int)==((g.n.val:Nat):Int)&&(f.w==g.w&&true))):=by
 obtain ⟨a,b,c⟩:=f;obtain ⟨i,j,l⟩:=g;rw [acs];simp [BT.mk.injEq,_root_.Fin.ext_iff];exact ⟨λ⟨e,h,d⟩=>⟨by omega,by omega,d⟩,λ⟨e,h,d⟩=>⟨by omega,by omega,d⟩⟩
theorem PK (l:List BT):AC Tryz.prog T aH 223 [.own (.b 0) l.length 0 l.length none] [dn 134 fJ jS l] (.own (.b 0) l.length 0 (dd jS l l.length).length none) [.cells ⟨134,l.length,λj=>bif Nat.blt j (dd jS l l.length).length then fJ ((dd jS l l.length).getD j jS)else (T 134).zero,0⟩]:=by
 refine aX Tryz.func223 ?_;refine WP.ownlen 0 rfl rfl rfl (λhl=>?_);refine sg rfl (sq (sq (rg [] rfl ?_)));refine cd rfl (λv=>?_) (λv=>?_)
 ·refine sg rfl (rX ?_);have e:dd jS l l.length=l:=NR jS (λj h0 w=>by simp at v;omega);rw [e];exact aJ hT [] (ts:=[(2,.own (.b 0) l.length 0 l.length none)]) trivial ⟨⟨rfl,_,rfl,ah rfl⟩,tt⟩ ⟨⟨λ_ _=>Tj (enc:=fJ) (d:=jS) (λ_=>dP _ _) rfl _,.inl ⟨_,rfl,_,_,rfl,abd _,abq _,abq _,λq r=>ah (rE (show q<l.length from r) _ _).symm⟩⟩,tt⟩ rfl rfl rfl
 refine sk (sq (sq (rg [] rfl ?_)));refine bk (WP.loop (α:=Nat) (λi=>aN [(0,.own (.b 0) l.length 0 l.length none),(3,.int i)] [(.b 0,dn 134 fJ jS l)]) (λi=>1<=i/\i<=l.length /\ ∀ j,0<j->j<i->l.getD j jS≠l.getD (j - 1) jS) (λi=>l.length - i) ?_ ?_);{refine ⟨1,?_,?_⟩;{exact ⟨abd _,by simp at v;omega,λj v h2=>by omega⟩};refine eX cX ⟨obs rfl,tt⟩};rintro i ⟨a0,hi,hn⟩;refine sq (sq (rg [] rfl ?_));refine cd rfl (λh4=>?_) (λh4=>?_);{(have o:i<l.length:=by simpa using h4);have e1:=Gl a0 (show i<2 ^ 63 by omega);have e2:=bK (n:=(i:Int) - 1) (by omega) (by omega);refine sk (sq (bk (sq (drs [] rfl ?_ ?_))));{simp [ay,under,e2];omega};refine cd rfl (λh6=>?_) (λh6=>?_);{(have s:l.getD i jS=l.getD (i - 1) jS:=by have e:(l.getD i jS==l.getD (IntKind.i64.wrap ((i:Int) - 1)).toNat jS)=true:=(MN _ _).trans h6;rw [e1]at e;simpa using e);refine sg rfl (sq (sq (rg [] rfl ?_)));refine bk (WP.loop (α:=List BT×Nat×Nat) (λ(⟨c,i2,k⟩:List BT×Nat×Nat)=>aN [(0,.own (.b 0) l.length 0 l.length none),(3,.int i2),(4,.own (.b 0) l.length i (l.length - i) none),(5,.int k)] [(.b 0,.cells ⟨134,l.length,λj=>fJ (c.getD j jS),0⟩)]) (λ(⟨c,i2,k⟩:List BT×Nat×Nat)=>c.length=l.length/\1<=k/\i+k<=l.length/\c.take i2=dd jS l (i+k)/\i2=(dd jS l (i+k)).length/\i2<i+k /\ ∀ j,i+k<=j+1->c.getD j jS=l.getD j jS) (λ(⟨c,i2,k⟩:List BT×Nat×Nat)=>l.length - k) ?_ ?_);{refine ⟨(l,i,1),?_,?_⟩;{have e:=Uc jS (by omega) s;have e':=RG jS l i (by omega) hn;refine ⟨rfl,abd _,by omega,by rw [e,e'],by rw [e,e',adn];omega,by omega,λj w=>rfl⟩};refine eX cX ⟨obs rfl,tt⟩};rintro ⟨c,i2,k⟩ ⟨hc,a6,hk,g,f,t,a⟩;refine sq (sq (rg [] rfl ?_));refine cd rfl (λh9=>?_) (λh9=>?_);{(have u:i+k<l.length:=by simp at h9;omega);have e3:=Gl a6 (show k<2 ^ 63 by omega);have e4:=bK (n:=(k:Int) - 1) (by omega) (by omega);have r1:=a (i+k) (by omega);have r2:=a (i+k - 1) (by omega);(have e5:k - 1+i=i+k - 1:=by omega);(have y:k+i=i+k:=by omega);(have a8:c.getD (k+i) jS=l.getD (i+k) jS:=by rw [y];exact r1);refine sk (sq (bk (sq (drs [] rfl ?_ ?_))));{simp [ay,under,e4];omega};refine cd rfl (λm=>?_) (λm=>?_);{(have p:l.getD (i+k) jS≠l.getD (i+k - 1) jS:=by have e:(!(c.getD (k+i) jS==c.getD ((IntKind.i64.wrap ((k:Int) - 1)).toNat+i) jS))=true:=(ac8 Bool.not (MN _ _)).trans m;rw [e3,e5,y,r1,r2]at e;simpa using e);refine sq (rgs [] rfl ?_ ?_);{simp [ay,under];omega};refine rg [] rfl (rg [] rfl ?_);refine ⟨(c.set i2 (c.getD (k+i) jS),i2+1,k+1),?_,?_,?_⟩;{have em:=aaQ jS p;refine ⟨by simpa using hc,by omega,by omega,?_,by rw [<- adV,em];simp;omega,by omega,λj w=>?_⟩;{rw [<- adV,em,a8,<- g];(have h2:i2<c.length:=by omega);apply List.ext_getElem?;intro q;rw [adW,List.getElem?_append,adn,aev (Nat.le_of_lt h2),adW];rcases Nat.lt_trichotomy q i2 with h | h | h;{rw [aa2 (by omega),aa2 h,aa2 h,List.getElem?_set_ne (by omega)]};{subst h;simp [h2]};rw [xw (by omega),xw (by omega)];simp [show q - i2≠0 by omega]};simp only [aae];rw [List.getElem?_set_ne (by omega)];have:=a j (by omega);simpa using this};{refine eX cX ⟨⟨λ_ _=>rfl,.inl ⟨_,rfl,_,_,rfl,abd _,by first | exact abq _ | omega,by first | exact abq _ | omega,λq r=>?_⟩⟩,tt⟩;exact ah (Xg (enc:=fJ) (d:=jS) (l:=c) (i:=i2) (x:=c.getD (k+i) jS) (by omega) (by rw [acG];rfl) q)};(try simp only []);first | omega | grind};(have a5:l.getD (i+k) jS=l.getD (i+k - 1) jS:=by have e:(!(c.getD (k+i) jS==c.getD ((IntKind.i64.wrap ((k:Int) - 1)).toNat+i) jS))=false:=(ac8 Bool.not (MN _ _)).trans m;rw [e3,e5,y,r1,r2]at e;simpa using e);refine sk (rg [] rfl ?_);refine ⟨(c,i2,k+1),?_,?_,?_⟩;{have em:=Uc jS (l:=l) (k:=i+k) (by omega) a5;exact ⟨hc,by omega,by omega,by rw [<- adV,em];exact g,by rw [<- adV,em];exact f,by omega,λj w=>a j (by omega)⟩};{refine eX cX ⟨obs rfl,tt⟩};(try simp only []);first | omega | grind};(have u:i+k=l.length:=by simp at h9;omega);rw [u]at g f t;refine xt (sq (rgs [] rfl ?_ ?_));{simp [ay,under,qB,qC,capEq];omega};refine sq (rgs [] rfl ?_ ?_);{simp [ay,under,qB,qC,capEq];omega};refine rX ?_;refine aJ hT [] (ts:=[(2,.own (.b 0) l.length 0 (dd jS l l.length).length none)]) trivial ⟨⟨rfl,_,rfl,ah ?_⟩,tt⟩ ⟨⟨λ_ _=>Tj (enc:=fJ) (d:=jS) (λ_=>dP _ _) rfl _,.inl ⟨_,rfl,_,_,rfl,abd _,abq _,abq _,λq r=>ah ?_⟩⟩,tt⟩ rfl rfl rfl;{rw [<- f];rfl};simp only [ada];exact Zh jS (enc:=fJ) (z:=(T 134).zero) g f (by omega) q r};(have p:l.getD i jS≠l.getD (i - 1) jS:=by have e:(l.getD i jS==l.getD (IntKind.i64.wrap ((i:Int) - 1)).toNat jS)=false:=(MN _ _).trans h6;rw [e1]at e;simpa using e);refine sk (rg [] rfl ?_);refine ⟨i+1,?_,?_,?_⟩;{refine ⟨by omega,o,λj h0 w=>?_⟩;rcases adv j i with h | h;{exact hn j h0 h};(obtain rfl:j=i:=by omega);exact p};{refine eX cX ⟨obs rfl,tt⟩};(try simp only []);first | omega | grind};refine xt (sq (rg [] rfl ?_));refine rX ?_;(have o:i=l.length:=by simp at h4;omega);subst o;have e:dd jS l l.length=l:=NR jS hn;rw [e];exact aJ hT [] (ts:=[(2,.own (.b 0) l.length 0 l.length none)]) trivial ⟨⟨rfl,_,rfl,ah rfl⟩,tt⟩ ⟨⟨λ_ _=>Tj (enc:=fJ) (d:=jS) (λ_=>dP _ _) rfl _,.inl ⟨_,rfl,_,_,rfl,abd _,abq _,abq _,λq r=>ah (rE (show q<l.length from r) _ _).symm⟩⟩,tt⟩ rfl rfl rfl
open Go.Proofs
def bt (k n:Int) (w:Bool):BT:=⟨_root_.Fin.ofNat 8 k.toNat,_root_.Fin.ofNat 8 n.toNat,w⟩
theorem ado {k n:Int} {w:Bool} (hk:0<=k/\k<8) (hn:0<=n/\n<8):(bt k n w).t=⟨k,n,w⟩:=by
 simp only [bt,BT.t,_root_.Fin.ofNat,Qc.mk.injEq,and_true];refine ⟨?_,?_⟩ <;> omega
def uh (l:List BT):List Ob:=[.cells ⟨195,1,λ_ => .own (.b 1) l.length 0 l.length none,0⟩,dn 134 fJ jS l]
theorem VT (k n:Int) (w:Bool):(AV.agg 134 3 λq=>bif Nat.beq q 2 then .bool w else bif Nat.beq q 1 then .int n else bif Nat.beq q 0 then .int k else [AV.int 0,AV.int 0,AV.bool false].getD q .bad)=vS ⟨k,n,w⟩:=bH (λq=>by match q with | 0 | 1 | 2 | q+3=>rfl)
theorem abL (l:List BT) (k n:Int) (w:Bool) (hl:l.length<=100) (hk:0<=k/\k<8) (hn:0<=n/\n<8):AC Tryz.prog T aH 219 [.int k,.int n,.bool w,.ptr (.b 0) 1 0 []] [.cells ⟨195,1,λ_ => .own (.b 1) l.length 0 l.length none,0⟩,dn 134 fJ jS l] (.tup []) [.cells ⟨195,1,λ_ => .own (.b 1) (l++[bt k n w]).length 0 (l++[bt k n w]).length none,0⟩,dn 134 fJ jS (l++[bt k n w])]:=by
 refine aX Tryz.func219 ?_;refine rgs [] rfl ?_ ?_
 ·have a:(T 134).bytes=24:=rfl;simp [ay,under,a];omega
 change Fin ..;refine aJ hT [] (ts:=[]) (l:=[]) trivial trivial ⟨obs rfl (hg:=q0 (ah (by rw [dA];rfl))),dL (dP _) rfl rfl (by rw [dA]) rfl rfl (DI (z:=(T 134).zero) rfl (by rw [fJ,ado hk hn];exact VT k n w) (λq c=>rfl)),tt⟩ rfl rfl rfl
def jX (l:List zK):List BT:=l.map λc=>bt 3 c.chan true
theorem Fe {l:List zK} {k:Nat} (hk:k<l.length):jX (l.take k)++[bt 3 (l.getD k DC).chan true]=jX (l.take (k+1)):=by
 rw [aei,Y0 hk,jX,jX,List.map_append];simp [hk]
def iF (p:ak) (s:cZ) (g:Int):List BT:=[bt 5 g true] ++
 (if (aU p s g).op=50 then [bt 1 (aU p s g).b false]else if (aU p s g).op=54 then [bt 1 (aU p s g).a false]else if (aU p s g).op=51 then [bt 1 (aU p s g).a true]else
 if (aU p s g).op=52 then [bt 1 (aU p s g).b true]else if (aU p s g).op=53 then [bt 1 (aU p s g).b true]else if (aU p s g).op=55 then [bt 2 (aU p s g).a true]else if (aU p s g).op=56 then [bt 2 (aU p s g).a true]else
 if (aU p s g).op=57 then [bt 2 (aU p s g).b true]else if (aU p s g).op=58 then [bt 3 (aU p s g).a true]else if (aU p s g).op=60 then [bt 3 (aU p s g).a true]else if (aU p s g).op=66 then [bt 3 (aU p s g).a true]else
 if (aU p s g).op=59 then [bt 3 (aU p s g).b true]else if (aU p s g).op=61 then jX (bJ p s g).cases else
 if (aU p s g).op=62 then [bt 4 0 true]++(if s.count<6 then [bt 5 s.count true]else [])else
 if (aU p s g).op=63 then [bt 4 0 false]++(if jL s g (bn (goI s g) (aU p s g).a)then [bt 5 (bn (goI s g) (aU p s g).a) false]else [])else
 if (aU p s g).op=65 then [bt 6 0 true]else [])
def dM (p:ak) (s:cZ) (g:Int):List BT:=dd jS (jw (iF p s g)) (jw (iF p s g)).length
theorem dZ.rng {p:ak} {s:cZ} {g:Int} (h:dZ p s g):((aU p s g).op=50\/(aU p s g).op=52\/(aU p s g).op=53\/(aU p s g).op=57\/(aU p s g).op=59->0<=(aU p s g).b/\(aU p s g).b<8) /\
 ((aU p s g).op=54\/(aU p s g).op=51\/(aU p s g).op=55\/(aU p s g).op=56\/(aU p s g).op=58\/(aU p s g).op=60\/(aU p s g).op=66->0<=(aU p s g).a/\(aU p s g).a<8):=by
 have hp:=h.prog;have f:=hp.vars;have hl:=hp.locks;have hc:=hp.chans
 have d:=h.at
 have hi:(aU p s g).op≠66->DN p (bP p (goI s g)) (aU p s g):=λe=>by rw [d.ins e];exact h.ins
 constructor
 ·intro e;have hi:=hi (by omega)
  rcases e with e | e | e | e | e
  ·have:=(hi.load e).2;unfold aZ at this;omega
  ·have:=(hi.bump e).2.1;unfold aZ at this;omega
  ·have:=(hi.cas e).2.1;unfold aZ at this;omega
  ·have:=(hi.try_ e).2;omega
  ·have:=(hi.recv e).2.1;unfold aZ at this;omega
 ·intro e;by_cases c:(aU p s g).op=66
  ·have:=d.send (.inr (.inr c));unfold aZ at this;omega
  have hi:=hi c;rcases e with e | e | e | e | e | e | e
  ·have:=(hi.store (.inr e)).2;unfold aZ at this;omega
  ·have:=(hi.store (.inl e)).2;unfold aZ at this;omega
  ·have:=hi.lock (.inl e);omega
  ·have:=hi.lock (.inr e);omega
  ·have:=(hi.send e).1;unfold aZ at this;omega
  ·have:=hi.close e;unfold aZ at this;omega
  ·exact absurd e c
theorem Oo {p:ak} {s:cZ} {g:Int} (h:dZ p s g):(iF p s g).length<=5:=by
 have f:(aU p s g).op=61->(jX (bJ p s g).cases).length<=4:=λe=>by rw [jX,ad5];exact (h.sel e).2.len.2
 have one:∀ x:BT,[x].length<=4:=λx=>by simp
 have hb:∀ l:List BT,l.length<=4->([bt 5 g true]++l).length<=5:=λl h=>by simp;omega
 refine hb _ ?_;have d:∀ (c:Prop) [Decidable c] (a b:List BT),(c->a.length<=4)->b.length<=4->(if c then a else b).length<=4:=λc _ a b i j=>by by_cases h:c;rw [aa2 h];exact i h;rw [xw h];exact j
 refine d _ _ _ (λ_=>one _) <| d _ _ _ (λ_=>one _) <| d _ _ _ (λ_=>one _) <| d _ _ _ (λ_=>one _) <| d _ _ _ (λ_=>one _) <| d _ _ _ (λ_=>one _) <| d _ _ _ (λ_=>one _) <| d _ _ _ (λ_=>one _) <| d _ _ _ (λ_=>one _) <| d _ _ _ (λ_=>one _) <| d _ _ _ (λ_=>one _) <| d _ _ _ (λ_=>one _) <|
  d _ _ _ f <| d _ _ _ (λ_=>?_) <| d _ _ _ (λ_=>?_) <| d _ _ _ (λ_=>one _) (by simp)
 ·split <;> simp
 split <;> simp
def abM (l:List BT):List Ob:=[.cells ⟨195,1,λ_ => .own (.s 99 0) l.length 0 l.length none,0⟩,dn 134 fJ jS l]
theorem CB (l:List BT) (k n:Int) (w:Bool) (hl:l.length<=100) (hk:0<=k/\k<8) (hn:0<=n/\n<8):AC Tryz.prog T aH 219 [.int k,.int n,.bool w,.ptr (.b 0) 1 0 []] (List.map (fK (sig [.s 7 0,.s 99 0] 0)) (abM l)) (.tup []) (uh (l++[bt k n w])):=by
 have e:List.map (fK (sig [.s 7 0,.s 99 0] 0)) (abM l)=uh l:=by show [_,fK _ (dn 134 fJ jS l)]=_;rw [jy (jF _)];rfl
 rw [e];exact abL l k n w hl hk hn
theorem RP (l:List BT) (hl:l.length<4611686018427387904):AC Tryz.prog T aH 221 [.own (.b 0) l.length 0 l.length none,.clo 222 []] (List.map (fK (sig [.s 99 0] 0)) [dn 134 fJ jS l]) (.tup []) [zZ (jw l)]:=by
 have e:List.map (fK (sig [.s 99 0] 0)) [dn 134 fJ jS l]=[zZ l]:=by show [fK _ (dn 134 fJ jS l)]=_;rw [jy (jF _)];rfl
 rw [e];exact Wh l hl
def ddO (l:List BT):Ob := .cells ⟨134,l.length,λj=>bif Nat.blt j (dd jS l l.length).length then fJ ((dd jS l l.length).getD j jS)else (T 134).zero,0⟩
theorem MS (l:List BT):AC Tryz.prog T aH 223 [.own (.b 0) l.length 0 l.length none] (List.map (fK (sig [.s 99 0] 0)) [dn 134 fJ jS l]) (.own (.b 0) l.length 0 (dd jS l l.length).length none) [ddO l]:=by
 have e:List.map (fK (sig [.s 99 0] 0)) [dn 134 fJ jS l]=[dn 134 fJ jS l]:=by show [fK _ (dn 134 fJ jS l)]=_;rw [jy (jF _)]
 rw [e];exact PK l
theorem acd (ids:List Id) (l:List BT):okO ids (ddO l):=λi _=>by
 show fZ ids (bif _ then _ else _)=true;exact Tj (enc:=fJ) (d:=jS) (λ_=>dP _ _) rfl _
theorem Nl (p:ak) (s:cZ) (g:Int) (h:dZ p s g):AC Tryz.prog T aH 160 [aj p,encS s,.int g] [] (rowP 134 fJ jS (dM p s g)) []:=by
 refine aX Tryz.func160 ?_;have h6:=h.pos;have e2:=h.prog.chans;have e3:=h.valid.2.1;have j:=h.rng;have d3:=h.at;have d:∀ l:List BT,jm [.s 7 0,.s 99 0] [.cells ⟨195,1,λ_ => .own (.s 99 0) l.length 0 l.length none,0⟩,dn 134 fJ jS l]:=λl=>⟨λ_ _=>rfl,λ_ _=>rfl,tt⟩;have f:∀ l:List BT,jm (bs 2) (uh l):=λl=>⟨λ_ _=>rfl,λ_ _=>rfl,tt⟩;have i:∀ k n:Int,∀ w:Bool,0<=k/\k<8->0<=n/\n<8->AC Tryz.prog T aH 219 [.int k,.int n,.bool w,.ptr (.b 0) 1 0 []] (List.map (fK (sig [.s 7 0,.s 99 0] 0)) (abM [bt 5 g true])) (.tup []) (uh ([bt 5 g true]++[bt k n w])):=λk n w a b=>CB [bt 5 g true] k n w (by simp) a b;refine sg rfl (sq ?_);refine WP.ent (st':=aN [(3,.rp 26 (aj p)),(4,.rp 62 (encS s)),(2,.int g)] []) (em [(.s 3 0,1),(.s 4 0,1)] ⟨sF,sF,tt⟩ ⟨rq,rq,cq,tt⟩ trivial) ?_;refine rg [] rfl (sg rfl ?_);refine sq (wE [(2,.int g),(3,.rp 26 (aj p)),(4,.rp 62 (encS s)),(7,.ptr (.s 7 0) 1 0 []),(8,.clo 219 [.ptr (.s 7 0) 1 0 []])] [(.s 7 0,.cells ⟨195,1,λ_ => .own (.s 99 0) 0 0 0 none,0⟩),(.s 99 0,dn 134 fJ jS [])] ⟨obs rfl (hg:=q0 iK),⟨λ_ _=>rfl,.inr ⟨rfl,134,_,rfl,by decide⟩⟩,tt⟩ ?_);refine rgs [⟨true,[.s 7 0,.s 99 0],.tup [],uh [bt 5 g true]⟩] rfl ?_ ?_
 ·have c:=CB [] 5 g true (by simp) (by omega) (by omega);have z0:=d [];have z1:=f [bt 5 g true];exact au
 refine sq (wE [(2,.int g),(3,.rp 26 (aj p)),(4,.rp 62 (encS s)),(7,.ptr (.s 7 0) 1 0 []),(8,.clo 219 [.ptr (.s 7 0) 1 0 []])] [(.s 7 0,.cells ⟨195,1,λ_ => .own (.s 99 0) 1 0 1 none,0⟩),(.s 99 0,dn 134 fJ jS [bt 5 g true])] ⟨obs rfl,dL (dP _) rfl rfl rfl rfl rfl (λq c=>jF _ _),tt⟩ ?_);refine rgs [CG.pure (aQ (aU p s g))] rfl ?_ ?_
 ·have c:=Uh p s g h;exact au
 refine WP.seqJ (α:=List BT) (λl=>aN [(7,.ptr (.s 7 0) 1 0 [])] [(.s 7 0,.cells ⟨195,1,λ_ => .own (.s 99 0) l.length 0 l.length none,0⟩),(.s 99 0,dn 134 fJ jS l)]) (λl=>l=iF p s g) ?_ ?_
 ·refine sq (wQ [(.s 9 0,1)] [(2,.int g),(3,.rp 26 (aj p)),(4,.rp 62 (encS s)),(7,.ptr (.s 7 0) 1 0 []),(8,.clo 219 [.ptr (.s 7 0) 1 0 []]),(9,.rp 120 (aQ (aU p s g)))] [(.s 7 0,.cells ⟨195,1,λ_ => .own (.s 99 0) 1 0 1 none,0⟩),(.s 99 0,dn 134 fJ jS [bt 5 g true])] ⟨obs rfl,dL (dP _) rfl rfl rfl rfl rfl (λq c=>rfl),tt⟩ ?_);refine rg [] rfl (bk (sq (rg [] rfl ?_)));refine cd rfl (λh6=>?_) (λh6=>?_);{(have e:(aU p s g).op=50:=by simpa using h6);have hx:=j.1 (by omega);refine rgs [⟨true,[.s 7 0,.s 99 0],.tup [],uh ([bt 5 g true]++[bt 1 (aU p s g).b false])⟩] rfl ?_ ?_;{have c:=i 1 (aU p s g).b false (by omega) hx;have z0:=d [bt 5 g true];have z1:=f ([bt 5 g true]++[bt 1 (aU p s g).b false]);exact au};refine ⟨[bt 5 g true]++[bt 1 (aU p s g).b false],?_,?_⟩;{simp [iF,e]};refine eX cX ⟨obs rfl,dL (dP _) rfl rfl rfl rfl rfl (λq c=>jF _ _),tt⟩};(have b6:(aU p s g).op≠50:=by simpa using h6);refine sg rfl (cd rfl (λh8=>?_) (λh8=>?_));{(have e:(aU p s g).op=54:=by simpa using h8);have hx:=j.2 (by omega);refine rgs [⟨true,[.s 7 0,.s 99 0],.tup [],uh ([bt 5 g true]++[bt 1 (aU p s g).a false])⟩] rfl ?_ ?_;{have c:=i 1 (aU p s g).a false (by omega) hx;have z0:=d [bt 5 g true];have z1:=f ([bt 5 g true]++[bt 1 (aU p s g).a false]);exact au};refine ⟨[bt 5 g true]++[bt 1 (aU p s g).a false],?_,?_⟩;{simp [iF,e]};refine eX cX ⟨obs rfl,dL (dP _) rfl rfl rfl rfl rfl (λq c=>jF _ _),tt⟩};(have c0:(aU p s g).op≠54:=by simpa using h8);refine sg rfl (cd rfl (λx=>?_) (λx=>?_));{(have e:(aU p s g).op=51:=by simpa using x);have hx:=j.2 (by omega);refine rgs [⟨true,[.s 7 0,.s 99 0],.tup [],uh ([bt 5 g true]++[bt 1 (aU p s g).a true])⟩] rfl ?_ ?_;{have c:=i 1 (aU p s g).a true (by omega) hx;have z0:=d [bt 5 g true];have z1:=f ([bt 5 g true]++[bt 1 (aU p s g).a true]);exact au};refine ⟨[bt 5 g true]++[bt 1 (aU p s g).a true],?_,?_⟩;{simp [iF,e]};refine eX cX ⟨obs rfl,dL (dP _) rfl rfl rfl rfl rfl (λq c=>jF _ _),tt⟩};(have b7:(aU p s g).op≠51:=by simpa using x);refine sq (sq (rg [] rfl ?_));refine cd rfl (λm=>?_) (λm=>?_);{(have e:(aU p s g).op=52:=by simpa using m);have hx:=j.1 (by omega);refine sk (cd rfl (λm=>?_) (λm=>?_));{refine rgs [⟨true,[.s 7 0,.s 99 0],.tup [],uh ([bt 5 g true]++[bt 1 (aU p s g).b true])⟩] rfl ?_ ?_;{have c:=i 1 (aU p s g).b true (by omega) hx;have z0:=d [bt 5 g true];have z1:=f ([bt 5 g true]++[bt 1 (aU p s g).b true]);exact au};refine ⟨[bt 5 g true]++[bt 1 (aU p s g).b true],?_,?_⟩;{simp [iF,e]};refine eX cX ⟨obs rfl,dL (dP _) rfl rfl rfl rfl rfl (λq c=>jF _ _),tt⟩};simp_all};(have b8:(aU p s g).op≠52:=by simpa using m);refine rg [] rfl (cd rfl (λy=>?_) (λy=>?_));{(have e:(aU p s g).op=53:=by simpa using y);have hx:=j.1 (by omega);refine rgs [⟨true,[.s 7 0,.s 99 0],.tup [],uh ([bt 5 g true]++[bt 1 (aU p s g).b true])⟩] rfl ?_ ?_;{have c:=i 1 (aU p s g).b true (by omega) hx;have z0:=d [bt 5 g true];have z1:=f ([bt 5 g true]++[bt 1 (aU p s g).b true]);exact au};refine ⟨[bt 5 g true]++[bt 1 (aU p s g).b true],?_,?_⟩;{simp [iF,e]};refine eX cX ⟨obs rfl,dL (dP _) rfl rfl rfl rfl rfl (λq c=>jF _ _),tt⟩};(have b9:(aU p s g).op≠53:=by simpa using y);refine sq (sq (rg [] rfl ?_));refine cd rfl (λo=>?_) (λo=>?_);{(have e:(aU p s g).op=55:=by simpa using o);have hx:=j.2 (by omega);refine sk (cd rfl (λo=>?_) (λo=>?_));{refine rgs [⟨true,[.s 7 0,.s 99 0],.tup [],uh ([bt 5 g true]++[bt 2 (aU p s g).a true])⟩] rfl ?_ ?_;{have c:=i 2 (aU p s g).a true (by omega) hx;have z0:=d [bt 5 g true];have z1:=f ([bt 5 g true]++[bt 2 (aU p s g).a true]);exact au};refine ⟨[bt 5 g true]++[bt 2 (aU p s g).a true],?_,?_⟩;{simp [iF,e]};refine eX cX ⟨obs rfl,dL (dP _) rfl rfl rfl rfl rfl (λq c=>jF _ _),tt⟩};simp_all};(have c1:(aU p s g).op≠55:=by simpa using o);refine rg [] rfl (cd rfl (λz=>?_) (λz=>?_));{(have e:(aU p s g).op=56:=by simpa using z);have hx:=j.2 (by omega);refine rgs [⟨true,[.s 7 0,.s 99 0],.tup [],uh ([bt 5 g true]++[bt 2 (aU p s g).a true])⟩] rfl ?_ ?_;{have c:=i 2 (aU p s g).a true (by omega) hx;have z0:=d [bt 5 g true];have z1:=f ([bt 5 g true]++[bt 2 (aU p s g).a true]);exact au};refine ⟨[bt 5 g true]++[bt 2 (aU p s g).a true],?_,?_⟩;{simp [iF,e]};refine eX cX ⟨obs rfl,dL (dP _) rfl rfl rfl rfl rfl (λq c=>jF _ _),tt⟩};(have c2:(aU p s g).op≠56:=by simpa using z);refine sg rfl (cd rfl (λa0=>?_) (λa0=>?_));{(have e:(aU p s g).op=57:=by simpa using a0);have hx:=j.1 (by omega);refine rgs [⟨true,[.s 7 0,.s 99 0],.tup [],uh ([bt 5 g true]++[bt 2 (aU p s g).b true])⟩] rfl ?_ ?_;{have c:=i 2 (aU p s g).b true (by omega) hx;have z0:=d [bt 5 g true];have z1:=f ([bt 5 g true]++[bt 2 (aU p s g).b true]);exact au};refine ⟨[bt 5 g true]++[bt 2 (aU p s g).b true],?_,?_⟩;{simp [iF,e]};refine eX cX ⟨obs rfl,dL (dP _) rfl rfl rfl rfl rfl (λq c=>jF _ _),tt⟩};(have c3:(aU p s g).op≠57:=by simpa using a0);refine sq (sq (rg [] rfl ?_));refine cd rfl (λr=>?_) (λr=>?_);{(have e:(aU p s g).op=58:=by simpa using r);have hx:=j.2 (by omega);refine sk (cd rfl (λr=>?_) (λr=>?_));{refine rgs [⟨true,[.s 7 0,.s 99 0],.tup [],uh ([bt 5 g true]++[bt 3 (aU p s g).a true])⟩] rfl ?_ ?_;{have c:=i 3 (aU p s g).a true (by omega) hx;have z0:=d [bt 5 g true];have z1:=f ([bt 5 g true]++[bt 3 (aU p s g).a true]);exact au};refine ⟨[bt 5 g true]++[bt 3 (aU p s g).a true],?_,?_⟩;{simp [iF,e]};refine eX cX ⟨obs rfl,dL (dP _) rfl rfl rfl rfl rfl (λq c=>jF _ _),tt⟩};simp_all};(have c4:(aU p s g).op≠58:=by simpa using r);refine sg rfl (cd rfl (λt=>?_) (λt=>?_));{(have e:(aU p s g).op=60:=by simpa using t);have hx:=j.2 (by omega);refine sk (cd rfl (λt=>?_) (λt=>?_));{refine rgs [⟨true,[.s 7 0,.s 99 0],.tup [],uh ([bt 5 g true]++[bt 3 (aU p s g).a true])⟩] rfl ?_ ?_;{have c:=i 3 (aU p s g).a true (by omega) hx;have z0:=d [bt 5 g true];have z1:=f ([bt 5 g true]++[bt 3 (aU p s g).a true]);exact au};refine ⟨[bt 5 g true]++[bt 3 (aU p s g).a true],?_,?_⟩;{simp [iF,e]};refine eX cX ⟨obs rfl,dL (dP _) rfl rfl rfl rfl rfl (λq c=>jF _ _),tt⟩};simp_all};(have c6:(aU p s g).op≠60:=by simpa using t);refine rg [] rfl (cd rfl (λa1=>?_) (λa1=>?_));{(have e:(aU p s g).op=66:=by simpa using a1);have hx:=j.2 (by omega);refine rgs [⟨true,[.s 7 0,.s 99 0],.tup [],uh ([bt 5 g true]++[bt 3 (aU p s g).a true])⟩] rfl ?_ ?_;{have c:=i 3 (aU p s g).a true (by omega) hx;have z0:=d [bt 5 g true];have z1:=f ([bt 5 g true]++[bt 3 (aU p s g).a true]);exact au};refine ⟨[bt 5 g true]++[bt 3 (aU p s g).a true],?_,?_⟩;{simp [iF,e]};refine eX cX ⟨obs rfl,dL (dP _) rfl rfl rfl rfl rfl (λq c=>jF _ _),tt⟩};(have d1:(aU p s g).op≠66:=by simpa using a1);refine sg rfl (cd rfl (λa2=>?_) (λa2=>?_));{(have e:(aU p s g).op=59:=by simpa using a2);have hx:=j.1 (by omega);refine rgs [⟨true,[.s 7 0,.s 99 0],.tup [],uh ([bt 5 g true]++[bt 3 (aU p s g).b true])⟩] rfl ?_ ?_;{have c:=i 3 (aU p s g).b true (by omega) hx;have z0:=d [bt 5 g true];have z1:=f ([bt 5 g true]++[bt 3 (aU p s g).b true]);exact au};refine ⟨[bt 5 g true]++[bt 3 (aU p s g).b true],?_,?_⟩;{simp [iF,e]};refine eX cX ⟨obs rfl,dL (dP _) rfl rfl rfl rfl rfl (λq c=>jF _ _),tt⟩};(have c5:(aU p s g).op≠59:=by simpa using a2);refine sg rfl (cd rfl (λa3=>?_) (λa3=>?_));{(have e:(aU p s g).op=61:=by simpa using a3);have b0:=h.sel e;have d5:=b0.1;have d4:=h.fit.2.1;have b4:=b0.2.len;refine sq (drs [] rfl ?_ ?_);{simp only [aZ,bP,goI]at d5 d4;simp [-List.getD_eq_getElem?_getD,ay,under];omega};refine bk (WP.loop (α:=Nat) (λk=>aN [(7,.ptr (.s 7 0) 1 0 []),(8,.clo 219 [.ptr (.s 7 0) 1 0 []]),(91,rowP 215 pz DC (bJ p s g).cases),(92,.int (bJ p s g).cases.length),(93,.int k)] [(.s 7 0,.cells ⟨195,1,λ_ => .own (.s 99 0) ([bt 5 g true]++jX ((bJ p s g).cases.take k)).length 0 ([bt 5 g true]++jX ((bJ p s g).cases.take k)).length none,0⟩),(.s 99 0,dn 134 fJ jS ([bt 5 g true]++jX ((bJ p s g).cases.take k)))]) (λk=>k<=(bJ p s g).cases.length) (λk=>(bJ p s g).cases.length - k) ?_ ?_);{refine ⟨0,?_,?_⟩;{exact abq _};refine eX cX ⟨obs rfl,dL (dP _) rfl rfl rfl rfl rfl (λq c=>rfl),tt⟩};rintro k hk;refine sg rfl (sq ?_);refine cd rfl (λa4=>?_) (λa4=>?_);{(have u:k<(bJ p s g).cases.length:=by simp [-List.getD_eq_getElem?_getD]at a4;omega);have d6:=(b0.2.case (aA (bJ p s g) k) (by unfold aA;rw [aae,Y0 u];exact acr _)).chan;(have b1:([bt 5 g true]++jX ((bJ p s g).cases.take k))++[bt 3 (aA (bJ p s g) k).chan true]=[bt 5 g true]++jX ((bJ p s g).cases.take (k+1)):=by rw [adQ,<- Fe u]);(have e0:([bt 5 g true]++jX ((bJ p s g).cases.take k)).length<=100:=by simp [jX];omega);refine sk (sq (bk (sq (rgs [] rfl ?_ ?_))));{simp [-List.getD_eq_getElem?_getD,ay,under];omega};refine rgs [⟨true,[.s 7 0,.s 99 0],.tup [],uh (([bt 5 g true]++jX ((bJ p s g).cases.take k))++[bt 3 (aA (bJ p s g) k).chan true])⟩] rfl ?_ ?_;{unfold aZ at d6;have c:=CB ([bt 5 g true]++jX ((bJ p s g).cases.take k)) 3 (aA (bJ p s g) k).chan true e0 (by omega) (by omega);have b2:=d ([bt 5 g true]++jX ((bJ p s g).cases.take k));have b3:=f (([bt 5 g true]++jX ((bJ p s g).cases.take k))++[bt 3 (aA (bJ p s g) k).chan true]);exact au};refine rg [] rfl ⟨k+1,?_,?_,?_⟩;{exact u};{refine eX cX ⟨obs rfl (hg:=q0 (ah (by rw [<- b1] <;> rfl))),dL (dP _) rfl rfl (by rw [<- b1] <;> rfl) rfl rfl (λq c=>by rw [<- b1];exact jF _ _),tt⟩};(try simp only []);first | omega | grind};(have u:k=(bJ p s g).cases.length:=by simp [-List.getD_eq_getElem?_getD]at a4;omega);refine xt ⟨[bt 5 g true]++jX ((bJ p s g).cases.take k),?_,?_⟩;{rw [u,adX];simp [iF,e]};refine eX cX ⟨obs rfl,dL (dP _) rfl rfl rfl rfl rfl (λq c=>rfl),tt⟩};(have c7:(aU p s g).op≠61:=by simpa using a3);refine sg rfl (cd rfl (λa5=>?_) (λa5=>?_));{(have e:(aU p s g).op=62:=by simpa using a5);refine sq (rgs [⟨true,[.s 7 0,.s 99 0],.tup [],uh ([bt 5 g true]++[bt 4 0 true])⟩] rfl ?_ ?_);{have c:=i 4 0 true (by omega) (by omega);have z0:=d [bt 5 g true];have z1:=f ([bt 5 g true]++[bt 4 0 true]);exact au};refine sg rfl (cd rfl (λa6=>?_) (λa6=>?_));{(have a9:s.count<6:=by simpa using a6);refine wE [(4,.rp 62 (encS s)),(7,.ptr (.s 7 0) 1 0 []),(8,.clo 219 [.ptr (.s 7 0) 1 0 []])] [(.s 7 0,.cells ⟨195,1,λ_ => .own (.s 99 0) 2 0 2 none,0⟩),(.s 99 0,dn 134 fJ jS ([bt 5 g true]++[bt 4 0 true]))] ⟨obs rfl,dL (dP _) rfl rfl rfl rfl rfl (λq c=>jF _ _),tt⟩ (rgs [⟨true,[.s 7 0,.s 99 0],.tup [],uh (([bt 5 g true]++[bt 4 0 true])++[bt 5 s.count true])⟩] rfl ?_ ?_);{have c:=CB ([bt 5 g true]++[bt 4 0 true]) 5 s.count true (by simp) (by omega) (by omega);have b2:=d ([bt 5 g true]++[bt 4 0 true]);have b3:=f (([bt 5 g true]++[bt 4 0 true])++[bt 5 s.count true]);exact au};refine ⟨([bt 5 g true]++[bt 4 0 true])++[bt 5 s.count true],?_,?_⟩;{simp [iF,e,a9]};refine eX cX ⟨obs rfl,dL (dP _) rfl rfl rfl rfl rfl (λq c=>jF _ _),tt⟩};(have a9:¬ s.count<6:=by simpa using a6);refine sk ⟨[bt 5 g true]++[bt 4 0 true],?_,?_⟩;{simp [iF,e,a9]};refine eX cX ⟨obs rfl,dL (dP _) rfl rfl rfl rfl rfl (λq c=>jF _ _),tt⟩};(have c8:(aU p s g).op≠62:=by simpa using a5);refine sg rfl (cd rfl (λa7=>?_) (λa7=>?_));{(have e:(aU p s g).op=63:=by simpa using a7);have e4:=d3.join (.inl e);refine sq (rgs [⟨true,[.s 7 0,.s 99 0],.tup [],uh ([bt 5 g true]++[bt 4 0 false])⟩] rfl ?_ ?_);{have c:=i 4 0 false (by omega) (by omega);have z0:=d [bt 5 g true];have z1:=f ([bt 5 g true]++[bt 4 0 false]);exact au};refine sq (drs [] rfl ?_ ?_);{simp [-List.getD_eq_getElem?_getD,ay,under];omega};refine sq (rgs [CG.pure (.bool (jL s g (bn (goI s g) (aU p s g).a)))] rfl ?_ ?_);{have c:=Gn s g (bn (goI s g) (aU p s g).a);exact au};refine cd rfl (λv=>?_) (λv=>?_);{(have e6:0<=bn (goI s g) (aU p s g).a/\bn (goI s g) (aU p s g).a<8:=by simp only [jL,acf]at v;omega);refine wE [(12,.int (bn (goI s g) (aU p s g).a)),(7,.ptr (.s 7 0) 1 0 []),(8,.clo 219 [.ptr (.s 7 0) 1 0 []])] [(.s 7 0,.cells ⟨195,1,λ_ => .own (.s 99 0) 2 0 2 none,0⟩),(.s 99 0,dn 134 fJ jS ([bt 5 g true]++[bt 4 0 false]))] ⟨obs rfl,dL (dP _) rfl rfl rfl rfl rfl (λq c=>jF _ _),tt⟩ (rgs [⟨true,[.s 7 0,.s 99 0],.tup [],uh (([bt 5 g true]++[bt 4 0 false])++[bt 5 (bn (goI s g) (aU p s g).a) false])⟩] rfl ?_ ?_);{have ew:IntKind.i64.wrap (bn (goI s g) (aU p s g).a)=bn (goI s g) (aU p s g).a:=bK (by omega) (by omega);have c:=CB ([bt 5 g true]++[bt 4 0 false]) 5 (bn (goI s g) (aU p s g).a) false (by simp) (by omega) (by omega);have b2:=d ([bt 5 g true]++[bt 4 0 false]);have b3:=f (([bt 5 g true]++[bt 4 0 false])++[bt 5 (bn (goI s g) (aU p s g).a) false]);simp only [ew];exact au};refine ⟨([bt 5 g true]++[bt 4 0 false])++[bt 5 (bn (goI s g) (aU p s g).a) false],?_,?_⟩;{simp [-List.getD_eq_getElem?_getD,iF,e,v]};refine eX cX ⟨obs rfl,dL (dP _) rfl rfl rfl rfl rfl (λq c=>jF _ _),tt⟩};refine sk ⟨[bt 5 g true]++[bt 4 0 false],?_,?_⟩;{simp [-List.getD_eq_getElem?_getD,iF,e,v]};refine eX cX ⟨obs rfl,dL (dP _) rfl rfl rfl rfl rfl (λq c=>jF _ _),tt⟩};(have c9:(aU p s g).op≠63:=by simpa using a7);refine sg rfl (cd rfl (λa8=>?_) (λa8=>?_));{(have e:(aU p s g).op=65:=by simpa using a8);refine rgs [⟨true,[.s 7 0,.s 99 0],.tup [],uh ([bt 5 g true]++[bt 6 0 true])⟩] rfl ?_ ?_;{have c:=i 6 0 true (by omega) (by omega);have z0:=d [bt 5 g true];have z1:=f ([bt 5 g true]++[bt 6 0 true]);exact au};refine ⟨[bt 5 g true]++[bt 6 0 true],?_,?_⟩;{simp [iF,e]};refine eX cX ⟨obs rfl,dL (dP _) rfl rfl rfl rfl rfl (λq c=>jF _ _),tt⟩};(have d0:(aU p s g).op≠65:=by simpa using a8);refine sk ⟨[bt 5 g true],?_,?_⟩;{simp [iF,b6,c0,b7,b8,b9,c1,c2,c3,c4,c6,d1,c5,c7,c8,c9,d0]};refine eX cX ⟨obs rfl,dL (dP _) rfl rfl rfl rfl rfl (λq c=>rfl),tt⟩
 rintro l hl;refine sq ?_;(have e5:l.length<=5:=by rw [hl];exact Oo h);refine rgs [⟨true,[.s 99 0],.tup [],[zZ (jw l)]⟩] rfl ?_ ?_;{have c:=RP l (by omega);have d8:jm [.s 99 0] [dn 134 fJ jS l]:=⟨λ_ _=>rfl,tt⟩;have d9:jm (bs 1) [zZ (jw l)]:=⟨λ_ _=>rfl,tt⟩;exact au};refine sq ?_;have b4:(jw l).length=l.length:=tN Nr l;refine wE [(7,.ptr (.s 7 0) 1 0 [])] [(.s 7 0,.cells ⟨195,1,λ_ => .own (.s 99 0) (jw l).length 0 (jw l).length none,0⟩),(.s 99 0,dn 134 fJ jS (jw l))] ⟨obs rfl (hg:=q0 (ah (by rw [b4]))),dL (dP _) rfl rfl rfl rfl rfl (λq c=>jF _ _),tt⟩ (rgs [⟨true,[.s 99 0],.own (.b 0) (jw l).length 0 (dd jS (jw l) (jw l).length).length none,[ddO (jw l)]⟩] rfl ?_ ?_);{have c:=MS (jw l);have d8:jm [.s 99 0] [dn 134 fJ jS (jw l)]:=⟨λ_ _=>rfl,tt⟩;have d9:jm (bs 1) [ddO (jw l)]:=⟨acd _ _,tt⟩;exact au};refine rX ?_;have d7:=RF jS (jw l) (jw l).length;refine aJ hT [(.s 99 0,(jw l).length)] (ts:=[(6,rowP 134 fJ jS (dM p s g))]) (l:=[rowP 134 fJ jS (dM p s g)]) ⟨⟨_,rfl,abd _⟩,tt⟩ ⟨⟨rfl,_,rfl,?_⟩,tt⟩ trivial rfl rfl rfl;rw [dM,<- hl];refine iw rfl rfl rfl (λh=>by cases h) (by simp [dW,aS];exact d7) (λq c=>?_);show fC (ren _ (bif Nat.blt (0+q) _ then _ else _))=true/\vU (ren _ (bif Nat.blt (0+q) _ then _ else _)) _;rw [ada,rE c,jF];exact ⟨rfl,vU.refl _⟩
structure bF where
 go:Int
 alt:Int
 deriving DecidableEq
def dG:bF:=⟨0,0⟩
def aT (x:bF):AV:=bC 122 [.int x.go,.int x.alt]
theorem nO (ids:List Id) (x:bF):fZ ids (aT x)=true:=rfl
def mM (p:ak) (s:cZ):Int:=if fE p=false then 3 else if ¬ dF p s then 4 else 0
theorem IY (p:ak) (s:cZ) (e:oh s):AC Tryz.prog T aH 114 [aj p,encS s] [] (.int (mM p s)) []:=by
 refine aX Tryz.func114 ?_;refine sg rfl (sq (sq ?_));refine WP.ent (st':=aN [(2,.rp 26 (aj p)),(3,.rp 62 (encS s))] []) (em [(.s 2 0,1),(.s 3 0,1)] ⟨sF,sF,tt⟩ ⟨rq,rq,tt⟩ trivial) ?_;refine rgs [CG.pure (zH p)] rfl ?_ ?_
 ·have f:=Ed p;exact au
 refine sg rfl (cd rfl (λa=>?_) (λa=>?_))
 ·(have b:fE p=false:=by simp at a;simp [fE];exact a);exact sg rfl (WP.ret (bf hT (by rfl) (by rw [mM,aa2 b])))
 (have b:¬ fE p=false:=by simp at a;simp [fE];exact a);refine sk (sq (sq (rgs [CG.pure (.bool (decide (dF p s)))] rfl ?_ ?_)));{have f:=Nk p s e;exact au};refine cd rfl (λc=>?_) (λc=>?_);{(have d:¬ dF p s:=by simpa using c);exact sg rfl (WP.ret (bf hT (by rfl) (by rw [mM,xw b,aa2 d])))};(have d:¬ ¬ dF p s:=by simpa using c);refine sk (sq (rg [] rfl ?_));exact WP.ret (bf hT (by rfl) (by rw [mM,xw b,xw d]))
theorem aci {p:ak} {s:cZ} (h:mM p s=0):dF p s:=by
 unfold mM at h;split at h
 ·cases h
 split at h;{cases h};rename_i b a;simpa using a
def yL (p:ak) (s:cZ) (g:Int):List bF:=(iR p s g).map λa=>⟨g,a⟩
def aF (p:ak) (s:cZ):List bF:=if mM p s=0 then (iP s).flatMap (yL p s)else []
theorem DV {p:ak} {s:cZ} (c:oh s) (d:dF p s) {g:Int} (h:g∈iP s):dZ p s g:=by
 obtain ⟨j,e,a,b⟩:=xX.1 h;exact ⟨c,d,by rw [goI,a];exact b,by omega⟩
def qh (p:ak) (s:cZ) (i j:Nat):List bF:=((iP s).take i).flatMap (yL p s)++(yL p s ((iP s).getD i 0)).take j
theorem TR {α β:Type} {f:α->List β} {n:Nat}:∀ {l:List α},(∀ x∈l,(f x).length<=n)->(l.flatMap f).length<=n*l.length
 | [],_=>by simp
 | x::r,h=>by have b:=h x (by simp);have c:=TR (l:=r) (λy a=>h y (by simp [a]));rw [aeS,adC,ad4,Nat.mul_succ];omega
theorem Ve {p:ak} {s:cZ} (a:oh s) (b:dF p s) (i j:Nat):(qh p s i j).length<=30+j:=by
 have c:(((iP s).take i).flatMap (yL p s)).length<=5*((iP s).take i).length:=TR λx hx=>by rw [yL,ad5];exact I7 (DV a b (List.mem_of_mem_take hx))
 have d:(iP s).length<=6:=xY s 6;have e:((iP s).take i).length<=(iP s).length:=by rw [adn];omega
 rw [qh,adC,adn];omega
theorem aad {p:ak} {s:cZ} {x:Int} {j:Nat} (a:j<(iR p s x).length):(yL p s x)[j]? = some ⟨x,(iR p s x).getD j 0⟩:=by simp [yL,a]
theorem QB {p:ak} {s:cZ} {i j:Nat} (a:j<(iR p s ((iP s).getD i 0)).length):qh p s i j++[⟨(iP s).getD i 0,(iR p s ((iP s).getD i 0)).getD j 0⟩]=qh p s i (j+1):=by
 rw [qh,qh,adQ,aei (l:=yL p s ((iP s).getD i 0)),aad a];rfl
theorem QC {p:ak} {s:cZ} {i:Nat} (hi:i<(iP s).length):qh p s i (iR p s ((iP s).getD i 0)).length=qh p s (i+1) 0:=by
 rw [qh,qh,List.take_of_length_le (l:=yL p s ((iP s).getD i 0)) (by simp [yL]),aei (l:=iP s),Y0 hi,ad2];simp [hi]
abbrev dB (l:List bF):AV:=rowP 122 aT dG l
theorem JH (p:ak) (s:cZ) (t:oh s):AC Tryz.prog T aH 69 [aj p,encS s] [] (.tup [dB (aF p s),.int (mM p s)]) []:=by
 refine aX Tryz.func69 ?_;refine sg rfl (sq (sq ?_));refine WP.ent (st':=aN [(2,.rp 26 (aj p)),(3,.rp 62 (encS s))] []) (em [(.s 2 0,1),(.s 3 0,1)] ⟨sF,sF,tt⟩ ⟨rq,rq,tt⟩ trivial) ?_;refine rgs [CG.pure (.int (mM p s))] rfl ?_ ?_
 ·have f:=IY p s t;exact au
 refine sg rfl (cd rfl (λm=>?_) (λm=>?_))
 ·(have g:mM p s≠0:=by simpa using m);refine sg rfl (rX ?_);refine aJ hT [] (ts:=[(4,dB (aF p s)),(5,.int (mM p s))]) (l:=[dB (aF p s),.int (mM p s)]) trivial ⟨⟨rfl,_,rfl,?_⟩,cq,tt⟩ trivial rfl rfl rfl;rw [aF,xw g];exact eP (by decide)
 (have g:mM p s=0:=by simpa using m);have u:=aci g;refine sk (sq (rg [] rfl ?_));refine sq (sq (rgs [CG.pure (ints false (iP s))] rfl ?_ ?_));{have f:=aas s;exact au};refine bk (WP.loop (α:=Nat) (λi=>aN [(2,.rp 26 (aj p)),(3,.rp 62 (encS s)),(7,.own (.s 39 0) (qh p s i 0).length 0 (qh p s i 0).length none),(19,ints false (iP s)),(20,.int (iP s).length),(21,.int i)] [(.s 39 0,dn 122 aT dG (qh p s i 0))]) (λi=>i<=(iP s).length) (λi=>(iP s).length - i) ?_ ?_);{refine ⟨0,?_,?_⟩;{exact abq _};refine eX ⟨cq,cq,⟨rfl,_,rfl,iK⟩,cq,cq,cq,tt⟩ ⟨⟨λ_ _=>rfl,.inr ⟨rfl,122,_,rfl,by decide⟩⟩,tt⟩};rintro i hi;refine sg rfl (sq ?_);refine cd rfl (λn=>?_) (λn=>?_);{(have a:i<(iP s).length:=by simp [-List.getD_eq_getElem?_getD]at n;omega);have k:dZ p s ((iP s).getD i 0):=DV t u (by rw [aae,Y0 a];exact acr _);have w:(iP s).length<=6:=xY s 6;refine sk (sq (bk (sq (rgs [] rfl ?_ ?_))));{simp [-List.getD_eq_getElem?_getD,ay,under];omega};refine sq (rgs [CG.pure (ints false (iR p s ((iP s).getD i 0)))] rfl ?_ ?_);{have f:=Uk p s _ k;exact au};refine bk (WP.loop (α:=Nat) (λj=>aN [(2,.rp 26 (aj p)),(3,.rp 62 (encS s)),(7,.own (.s 39 0) (qh p s i j).length 0 (qh p s i j).length none),(9,.int ((iP s).getD i 0)),(19,ints false (iP s)),(20,.int (iP s).length),(21,.int i),(28,ints false (iR p s ((iP s).getD i 0))),(29,.int (iR p s ((iP s).getD i 0)).length),(30,.int j)] [(.s 39 0,dn 122 aT dG (qh p s i j))]) (λj=>j<=(iR p s ((iP s).getD i 0)).length) (λj=>(iR p s ((iP s).getD i 0)).length - j) ?_ ?_);{refine ⟨0,?_,?_⟩;{exact abq _};refine eX cX ⟨dL (nO _) rfl rfl rfl rfl rfl (λq f=>rfl),tt⟩};rintro j y;refine sg rfl (sq ?_);refine cd rfl (λo=>?_) (λo=>?_);{(have b:j<(iR p s ((iP s).getD i 0)).length:=by simp [-List.getD_eq_getElem?_getD]at o;omega);have v:=I7 k;have x:=Ve t u i j;refine sk (sq (bk (sq (rgs [] rfl ?_ ?_))));{simp [-List.getD_eq_getElem?_getD,ay,under];omega};refine rgs [] rfl ?_ ?_;{have r:(T 122).bytes=16:=rfl;simp [ay,under,r];omega};refine rg [] rfl ?_;have d:=QB b;refine ⟨j+1,?_,?_,?_⟩;{exact b};{refine eX ⟨cq,cq,⟨rfl,_,rfl,ah (by rw [<- d,dA])⟩,cq,cq,cq,cq,cq,cq,cq,tt⟩ ⟨dL (nO _) rfl rfl (by rw [<- d,dA]) rfl rfl (by rw [<- d];exact DI (z:=(T 122).zero) rfl (bH (λq=>by match q with | 0 | 1 | q+2=>rfl)) (λq f=>rfl)),tt⟩};(try simp only []);first | omega | grind};(have b:j=(iR p s ((iP s).getD i 0)).length:=by simp [-List.getD_eq_getElem?_getD]at o;omega);subst b;refine xt (rg [] rfl ?_);have c:=QC (p:=p) a;refine ⟨i+1,?_,?_,?_⟩;{exact a};{refine eX ⟨cq,cq,⟨rfl,_,rfl,ah (by rw [c])⟩,cq,cq,cq,tt⟩ ⟨dL (nO _) rfl rfl (by rw [c]) rfl rfl (λq f=>by rw [<- c]),tt⟩};(try simp only []);first | omega | grind};(have a:i=(iP s).length:=by simp [-List.getD_eq_getElem?_getD]at n;omega);(have e:qh p s i 0=aF p s:=by rw [qh,a,adX,List.take_zero,adY,aF,aa2 g]);refine xt (sq (rg [] rfl ?_));refine rX ?_;refine aJ hT [(.s 39 0,(qh p s i 0).length)] (ts:=[(4,dB (aF p s)),(5,.int (mM p s))]) (l:=[dB (aF p s),.int (mM p s)]) ⟨⟨_,rfl,abd _⟩,tt⟩ ⟨⟨rfl,_,rfl,?_⟩,⟨rfl,_,rfl,ah (by rw [g])⟩,tt⟩ trivial rfl rfl rfl;rw [<- e];exact iw rfl rfl rfl (λh=>by cases h) (by simp [dW,aS]) (λq f=>by rw [ada];exact ⟨rfl,vU.refl _⟩)
structure PM where
 s:cZ
 g:Int
 fuel:Int
 val:Int
 over:Bool
def jg (p:ak) (m:PM):AV:=bC 263 [aj p,encS m.s,.int m.g,.int m.fuel,.int m.val,.bool m.over]
abbrev mO (p:ak) (m:PM):Ob := .cells ⟨263,1,λ_=>jg p m,0⟩
theorem ug (a:Id->Id) (p:ak):ren a (aj p)=aj p:=bH (λq=>by match q with | 0 | 1 | 2 | 3 | q+4=>rfl)
theorem abG (a:Id->Id) (g:iW):ren a (bV g)=bV g:=bH (λq=>by match q with | 0 | 1 | 2 | 3 | 4 | q+5=>rfl)
theorem abH (a:Id->Id) (c:iU):ren a (eF c)=eF c:=bH (λq=>by match q with | 0 | 1 | 2 | 3 | 4 | 5 | q+6=>rfl)
theorem JG (a:Id->Id) (s:cZ):ren a (encS s)=encS s:=bH (λq=>by
 match q with
 | 0 | 1 | 4 | q+5=>rfl
 | 2=>exact bH λi=>abH a _
 | 3=>exact bH λi=>abG a _)
theorem iH (a:Id->Id) (p:ak) (m:PM):ren a (jg p m)=jg p m:=bH (λq=>by
 match q with
 | 0=>exact ug a p
 | 1=>exact JG a _
 | 2 | 3 | 4 | 5 | q+6=>rfl)
theorem mY (a:Id->Id) (p:ak) (m:PM):List.map (fK a) [mO p m]=[mO p m]:=by
 show [Ob.cells ⟨_,_,λ_=>ren a (jg p m),_⟩]=_;rw [iH]
theorem bQ (ids:List Id) (p:ak) (m:PM):jm ids [mO p m]:=⟨λ_ _=>rfl,tt⟩
theorem AX {p:ak} {m:PM} {q:List Nat} {y:AV} {s:cZ} (e:(encS m.s).put q y=encS s):(jg p m).put (1::q) y=jg p { m with s:=s}:=(dh (abZ rfl)).trans (ac8 (λz=>bC 263 [aj p,z,.int m.g,.int m.fuel,.int m.val,.bool m.over]) e)
theorem kW (p:ak) (m:PM) (x:Int):(jg p m).put [4] (.int x)=jg p { m with val:=x}:=dh (abZ rfl)
theorem zO (p:ak) (m:PM) (x:Bool):(jg p m).put [5] (.bool x)=jg p { m with over:=x}:=dh (abZ rfl)
abbrev aC (m:PM):iW:=goI m.s m.g
abbrev fB (m:PM) (x:iW):PM:={ m with s:={ m.s with gos:=m.s.gos.set m.g.toNat x} }
abbrev cu (m:PM) (c:Int) (x:iU):PM:={ m with s:={ m.s with chans:=m.s.chans.set c.toNat x} }
structure mX (m:PM):Prop where
 s:oh m.s
 g:0<=m.g/\m.g<6
theorem oh.fB {s:cZ} (h:oh s) {k:Nat} {x:iW} (hx:Bd x):oh { s with gos:=s.gos.set k x}:=⟨h.vars,h.owner,h.chans,by show (s.gos.set k x).length=6;rw [adI];exact h.gos,h.ch,λg hg=>by
 rcases ad1 hg with a | a
 ·exact h.go g a
 ·rw [a];exact hx⟩
theorem oh.cu {s:cZ} (h:oh s) {k:Nat} {x:iU} (hx:Em x):oh { s with chans:=s.chans.set k x}:=⟨h.vars,h.owner,by show (s.chans.set k x).length=4;rw [adI];exact h.chans,h.gos,λc hc=>by
 rcases ad1 hc with a | a
 ·exact h.ch c a
 ·rw [a];exact hx,h.go⟩
theorem oh.setVar {s:cZ} (h:oh s) (k:Nat) (x:Int):oh { s with vars:=s.vars.set k x}:=⟨by show (s.vars.set k x).length=8;rw [adI];exact h.vars,h.owner,h.chans,h.gos,h.ch,h.go⟩
theorem oh.setOwn {s:cZ} (h:oh s) (k:Nat) (x:Int):oh { s with owner:=s.owner.set k x}:=⟨h.vars,by show (s.owner.set k x).length=4;rw [adI];exact h.owner,h.chans,h.gos,h.ch,h.go⟩
theorem Ox {p:ak} {m:PM} {q:List Nat} {y:AV} {x:iW} (h:m.g.toNat<m.s.gos.length) (e:(bV (aC m)).put q y=bV x):(jg p m).put (1::3::m.g.toNat::q) y=jg p (fB m x):=AX (ng h e)
theorem nM {p:ak} {m:PM} {c:Int} {q:List Nat} {y:AV} {x:iU} (h:c.toNat<m.s.chans.length) (e:(eF (bW m.s c)).put q y=eF x):(jg p m).put (1::2::c.toNat::q) y=jg p (cu m c x):=AX (uY h e)
theorem CO {p:ak} {m:PM} {q:List Nat} {y:AV} {x:iW} (h:mX m) (e:(bV (aC m)).put q y=bV x):(jg p m).put (1::3::m.g.toNat::q) y=jg p (fB m x):=Ox (by rw [h.s.gos];have:=h.g;omega) e
theorem aac {p:ak} {m:PM} {c:Int} {q:List Nat} {y:AV} {x:iU} (h:mX m) (hc:0<=c/\c<4) (e:(eF (bW m.s c)).put q y=eF x):(jg p m).put (1::2::c.toNat::q) y=jg p (cu m c x):=nM (by rw [h.s.chans];omega) e
theorem kG {s:cZ} {c:Int} {x:iU} (hl:c.toNat<s.chans.length):bW { s with chans:=s.chans.set c.toNat x} c=x:=by
 show (s.chans.set c.toNat x).getD c.toNat BG=x;simp [hl]
theorem xE {m:PM} {c:Int} (x y:iU):cu (cu m c x) c y=cu m c y:=by simp [cu]
theorem CP {p:ak} {m:PM} {c:Int} {q a:List Nat} {y b:AV} {x x':iU} (h:c.toNat<m.s.chans.length) (e:(eF (bW m.s c)).put q y=eF x) (d:(eF x).put a b=eF x'):((jg p m).put (1::2::c.toNat::q) y).put (1::2::c.toNat::a) b=jg p (cu m c x'):=by
 rw [nM h e,nM (m:=cu m c x) (x:=x') (by show c.toNat<(m.s.chans.set _ _).length;rw [adI];exact h) (by rw [kG h];exact d),xE]
theorem Oy {p:ak} {m:PM} {c:Int} {q b d:List Nat} {y f g:AV} {x x' a:iU} (h:c.toNat<m.s.chans.length) (e:(eF (bW m.s c)).put q y=eF x) (i:(eF x).put b f=eF x') (j:(eF x').put d g=eF a):(((jg p m).put (1::2::c.toNat::q) y).put (1::2::c.toNat::b) f).put (1::2::c.toNat::d) g=jg p (cu m c a):=by
 rw [CP h e i,nM (m:=cu m c x') (x:=a) (by show c.toNat<(m.s.chans.set _ _).length;rw [adI];exact h) (by rw [kG h];exact j),xE]
abbrev rH (m:PM):AV := .ptr (.b 0) 1 0 [1,3,m.g.toNat]
theorem QJ (p:ak) (m:PM) (hg:0<=m.g/\m.g<6):AC Tryz.prog T aH 162 [.ptr (.b 0) 1 0 []] [mO p m] (rH m) [mO p m]:=by
 refine aX Tryz.func162 ?_;refine sg rfl (sq (drs [] rfl ?_ ?_))
 ·simp [-List.getD_eq_getElem?_getD,ay,under];omega
 exact WP.ret (aJ hT [] (ts:=[(2,rH m)]) (l:=[rH m]) trivial cX ⟨obs rfl,tt⟩ rfl rfl rfl)
theorem sN (p:ak) (m:PM) (hg:0<=m.g/\m.g<6):AC Tryz.prog T aH 162 [.ptr (.b 0) 1 0 []] (List.map (fK (sig [.b 0] 0)) [mO p m]) (rH m) [mO p m]:=by rw [mY];exact QJ p m hg
def bU (m:PM) (r x:Int):PM:=if 0<=r then fB m (rV (aC m) r x)else m
theorem pq {m:PM} (h:mX m) (r x:Int):mX (bU m r x):=by
 unfold bU;split
 ·exact ⟨h.s.fB (by show ((aC m).regs.set _ _).length=8;rw [adI];exact gZ h.s _),h.g⟩
 exact h
theorem aam (p:ak) (m:PM) (r x:Int) (h:mX m) (k:r<8):AC Tryz.prog T aH 227 [.ptr (.b 0) 1 0 [],.int r,.int x] [mO p m] (.tup []) [mO p (bU m r x)]:=by
 refine aX Tryz.func227 ?_;refine sg rfl (cd rfl (λc=>?_) (λc=>?_))
 ·have a:0<=r:=by simpa using c
  have i:(aC m).regs.length=8:=gZ h.s _
  refine rgs [⟨true,[.b 0],rH m,[mO p m]⟩] rfl ?_ ?_
  ·have j:=sN p m h.g;have d:=bQ [.b 0] p m;have f:=bQ (bs 1) p m;exact au
  change Fin ..
  first
  | (
   refine aJ hT [] (ts:=[]) (l:=[]) trivial trivial ⟨obs rfl (hg:=q0 (ah ?_)),tt⟩ rfl rfl rfl
   show (ren _ (jg p m)).put _ _=_
   rw [iH,bU,aa2 a]
   exact CO h (kU x (by omega)))
  | (
   have e:bU m r x=m:=by rw [bU,xw (by simp at c;omega)]
   rw [e]
   exact aJ hT [] (ts:=[]) (l:=[]) trivial trivial ⟨obs rfl,tt⟩ rfl rfl rfl)
 ·refine sk ?_
  change Fin ..
  first
  | (
   refine aJ hT [] (ts:=[]) (l:=[]) trivial trivial ⟨obs rfl (hg:=q0 (ah ?_)),tt⟩ rfl rfl rfl
   show (ren _ (jg p m)).put _ _=_
   rw [iH,bU,aa2 a]
   exact CO h (kU x (by omega)))
  | (
   have e:bU m r x=m:=by rw [bU,xw (by simp at c;omega)]
   rw [e]
   exact aJ hT [] (ts:=[]) (l:=[]) trivial trivial ⟨obs rfl,tt⟩ rfl rfl rfl)
theorem oU (p:ak) (m:PM) (r x:Int) (h:mX m) (a:r<8):AC Tryz.prog T aH 227 [.ptr (.b 0) 1 0 [],.int r,.int x] (List.map (fK (sig [.b 0] 0)) [mO p m]) (.tup []) [mO p (bU m r x)]:=by rw [mY];exact aam p m r x h a
def kC (m:PM) (why:Int):PM:={ fB m (kP (aC m) 4 why)with val:=0,over:=true}
theorem wK {m:PM} (h:mX m) (why:Int):mX (kC m why):=⟨h.s.fB rfl,h.g⟩
theorem ab3 (g:iW) (why:Int):((((T 59).zero.put [0] (.int 4)).put [1] (.int g.func)).put [2] (.int g.pc)).put [3] (.int why)=bV (kP g 4 why):=by
 rw [F9,gI,show (bV { go0 with status:=4}).put [1] (.int g.func)=bV { go0 with status:=4,func:=g.func}from dh (abZ rfl),qj,Ec];rfl
theorem aaJ (p:ak) (m:PM) (why:Int) (h:mX m):AC Tryz.prog T aH 233 [.ptr (.b 0) 1 0 [],.int why] [mO p m] (.tup []) [mO p (kC m why)]:=by
 refine aX Tryz.func233 ?_;refine sq (rgs [⟨true,[.b 0],rH m,[mO p m]⟩] rfl ?_ ?_)
 ·have d:=sN p m h.g;have a:=bQ [.b 0] p m;have c:=bQ (bs 1) p m;exact au
 refine sq (wE [(0,.ptr (.b 0) 1 0 []),(1,.int why),(4,rH m)] [(.b 0,mO p m)] ⟨obs rfl (hg:=q0 (ah (iH _ _ _))),tt⟩ ?_);refine dr [] rfl (wE [(0,.ptr (.b 0) 1 0 [])] [(.b 0,mO p (fB m (kP (aC m) 4 why)))] ⟨obs rfl (hg:=q0 (ah (CO h (by rw [<- ab3];rfl)))),tt⟩ ?_);refine rg [] rfl ?_;change Fin ..;refine aJ hT [] (ts:=[]) (l:=[]) trivial trivial ⟨obs rfl (hg:=q0 (ah ?_)),tt⟩ rfl rfl rfl;exact (ac8 (λz=>AV.put z [5] (.bool true)) (kW p (fB m (kP (aC m) 4 why)) 0)).trans (zO p { fB m (kP (aC m) 4 why)with val:=0} true)
theorem wS (p:ak) (m:PM) (why:Int) (h:mX m):AC Tryz.prog T aH 233 [.ptr (.b 0) 1 0 [],.int why] (List.map (fK (sig [.b 0] 0)) [mO p m]) (.tup []) [mO p (kC m why)]:=by rw [mY];exact aaJ p m why h
def ig (p:ak) (m:PM) (g:Int):PM:={ m with s:=(bZ p m.s g m.fuel).1}
theorem HY (p:ak) (m:PM) (g:Int) (h:oh m.s):AC Tryz.prog T aH 163 [.ptr (.b 0) 1 0 [],.int g] [mO p m] (.tup []) [mO p (ig p m g)]:=by
 refine aX Tryz.func163 ?_;refine drs [CG.pure (.tup [encS (bZ p m.s g m.fuel).1,.int (bZ p m.s g m.fuel).2])] rfl ?_ ?_
 ·have a:=UC p m.s g m.fuel h;exact au
 change Fin ..;exact aJ hT [] (ts:=[]) (l:=[]) trivial trivial ⟨obs rfl (hg:=q0 (ah (AX (adg _ _)))),tt⟩ rfl rfl rfl
abbrev chM (c:Int):AV := .ptr (.b 0) 1 0 [1,2,c.toNat]
theorem gQ {m:PM} (h:mX m) (x:Int):mX { m with val:=x}:=⟨h.s,h.g⟩
theorem X3 {m:PM} (h:mX m) (x:Bool):mX { m with over:=x}:=⟨h.s,h.g⟩
theorem X4 {m:PM} (h:mX m) {x:iW} (hx:Bd x):mX (fB m x):=⟨h.s.fB hx,h.g⟩
theorem vM {m:PM} (h:mX m) (c:Int) {x:iU} (hx:Em x):mX (cu m c x):=⟨h.s.cu hx,h.g⟩
abbrev oM (x:iU) (k v:Int):iU:={ x with buf:=x.buf.set k.toNat v}
def iT (p:ak) (m:PM) (c x:Int):PM :=
 if (bW m.s c).closed=true then kC { m with val:=x} 4 else
 if 0<p.chans.getD c.toNat 0 then cu { m with val:=x} c { oM (bW m.s c) (bW m.s c).len x with len:=(bW m.s c).len+1}else
 { fB (cu { m with val:=x} c { bW m.s c with offer:=1,frm:=m.g,val:=x}) { aC m with status:=2}with over:=true}
theorem Hu {p:ak} {m:PM} (h:mX m) (c x:Int):mX (iT p m c x):=by
 have hb:(bW m.s c).buf.length=4:=kK h.s _;unfold iT;split
 ·exact wK (gQ h x) 4
 split;{exact vM (gQ h x) c (by show ((bW m.s c).buf.set _ _).length=4;rw [adI];exact hb)};exact X3 (X4 (vM (gQ h x) c (x:={ bW m.s c with offer:=1,frm:=m.g,val:=x}) hb) (x:={ aC m with status:=2}) (gZ h.s _)) true
theorem Yg (p:ak) (m:PM) (c x:Int) (h:mX m) (hc:aZ c p.chans.length) (hp:qJ p) (y:jV p m.s c=true) (hlen:0<=(bW m.s c).len):AC Tryz.prog T aH 225 [.ptr (.b 0) 1 0 [],.int c,.int x] [mO p m] (.tup []) [mO p (iT p m c x)]:=by
 refine aX Tryz.func225 ?_;have v:=hp.chans;have u:p.chans.getD c.toNat 0<=4:=(hp.caps _ (by unfold aZ at hc;rw [aae,Y0 (show c.toNat<p.chans.length by omega)];exact acr _)).2;unfold aZ at hc;have o:0<=c/\c<4:=by omega
 have hb:(bW m.s c).buf.length=4:=kK h.s _;refine sq (rgs [] rfl ?_ ?_)
 ·simp [-List.getD_eq_getElem?_getD,ay,under];omega
 refine sg rfl (bk (sq ?_));refine wE [(0,.ptr (.b 0) 1 0 []),(1,.int c),(2,.int x),(6,chM c)] [(.b 0,mO p { m with val:=x})] ⟨obs rfl (hg:=q0 (ah (kW _ _ _))),tt⟩ (rg [] rfl ?_);refine cd rfl (λi=>?_) (λi=>?_)
 ·have d:(bW m.s c).closed=true:=by simp [-List.getD_eq_getElem?_getD]at i;exact i
  refine rgs [⟨true,[.b 0],.tup [],[mO p (kC { m with val:=x} 4)]⟩] rfl ?_ ?_
  ·have w:=wS p { m with val:=x} 4 (gQ h x);have q:=bQ [.b 0] p { m with val:=x};have r:=bQ (bs 1) p (kC { m with val:=x} 4);exact au
  change Fin ..
  first
  | (
   refine aJ hT [] (ts:=[]) (l:=[]) trivial trivial ⟨obs rfl (hg:=q0 (ah ?_)),tt⟩ rfl rfl rfl
   rw [iT,aa2 d]
   exact iH _ _ _)
  | (
   refine aJ hT [] (ts:=[]) (l:=[]) trivial trivial ⟨obs rfl (hg:=q0 (ah ?_)),tt⟩ rfl rfl rfl
   rw [iT,xw d,aa2 f]
   have a:c.toNat<m.s.chans.length:=by rw [h.s.chans];omega
   have j:IntKind.i64.wrap ((bW (cu { m with val:=x} c (oM (bW m.s c) (bW m.s c).len x)).s c).len+1)=(bW m.s c).len+1:=by rw [kG a];exact bK (by show _<=(bW m.s c).len+1;omega) (by show (bW m.s c).len+1<_;omega)
   show (jg p (cu { m with val:=x} c (oM (bW m.s c) (bW m.s c).len x))).put [1,2,c.toNat,1] (AV.int (IntKind.i64.wrap ((bW (cu { m with val:=x} c (oM (bW m.s c) (bW m.s c).len x)).s c).len+1)))=_
   rw [j]
   refine (nM (m:=cu { m with val:=x} c (oM (bW m.s c) (bW m.s c).len x)) (by show c.toNat<(m.s.chans.set _ _).length;rw [adI];exact a) (by rw [kG a];exact sZ _ _)).trans ?_
   rw [xE])
  | (
   refine aJ hT [] (ts:=[]) (l:=[]) trivial trivial ⟨obs rfl (hg:=q0 (ah ?_)),tt⟩ rfl rfl rfl
   rw [iT,xw d,xw f]
   exact zO _ _ _)
 ·have d:¬ (bW m.s c).closed=true:=by simp [-List.getD_eq_getElem?_getD]at i;exact λe=>absurd (i.symm.trans e) (by decide)
  refine sq (rgs [] rfl ?_ ?_)
  ·simp [-List.getD_eq_getElem?_getD,ay,under];omega
  refine cd rfl (λn=>?_) (λn=>?_)
  ·have f:0<p.chans.getD c.toNat 0:=by simp [-List.getD_eq_getElem?_getD]at n;omega
   have t:(bW m.s c).len<p.chans.getD c.toNat 0:=by have:=y;simp only [jV,adP,abf,acf,adk]at this;rcases this with (k | k) | k;{exact absurd k d};{exact k.2};omega
   refine sq (drs [] rfl ?_ ?_)
   ·simp only [bW]at hlen t hb;simp [-List.getD_eq_getElem?_getD,ay,under];omega
   refine wE [(6,chM c)] [(.b 0,mO p (cu { m with val:=x} c (oM (bW m.s c) (bW m.s c).len x)))] ⟨obs rfl (hg:=q0 (ah (aac (gQ h x) o (wG x (by show (bW m.s c).len.toNat<(bW m.s c).buf.length;omega))))),tt⟩ (rg [] rfl ?_)
   change Fin ..
   first
   | (
    refine aJ hT [] (ts:=[]) (l:=[]) trivial trivial ⟨obs rfl (hg:=q0 (ah ?_)),tt⟩ rfl rfl rfl
    rw [iT,aa2 d]
    exact iH _ _ _)
   | (
    refine aJ hT [] (ts:=[]) (l:=[]) trivial trivial ⟨obs rfl (hg:=q0 (ah ?_)),tt⟩ rfl rfl rfl
    rw [iT,xw d,aa2 f]
    have a:c.toNat<m.s.chans.length:=by rw [h.s.chans];omega
    have j:IntKind.i64.wrap ((bW (cu { m with val:=x} c (oM (bW m.s c) (bW m.s c).len x)).s c).len+1)=(bW m.s c).len+1:=by rw [kG a];exact bK (by show _<=(bW m.s c).len+1;omega) (by show (bW m.s c).len+1<_;omega)
    show (jg p (cu { m with val:=x} c (oM (bW m.s c) (bW m.s c).len x))).put [1,2,c.toNat,1] (AV.int (IntKind.i64.wrap ((bW (cu { m with val:=x} c (oM (bW m.s c) (bW m.s c).len x)).s c).len+1)))=_
    rw [j]
    refine (nM (m:=cu { m with val:=x} c (oM (bW m.s c) (bW m.s c).len x)) (by show c.toNat<(m.s.chans.set _ _).length;rw [adI];exact a) (by rw [kG a];exact sZ _ _)).trans ?_
    rw [xE])
   | (
    refine aJ hT [] (ts:=[]) (l:=[]) trivial trivial ⟨obs rfl (hg:=q0 (ah ?_)),tt⟩ rfl rfl rfl
    rw [iT,xw d,xw f]
    exact zO _ _ _)
  ·have f:¬ 0<p.chans.getD c.toNat 0:=by simp [-List.getD_eq_getElem?_getD]at n;omega
   refine sg rfl (sq ?_)
   refine wE [(0,.ptr (.b 0) 1 0 [])] [(.b 0,mO p (cu { m with val:=x} c { bW m.s c with offer:=1,frm:=m.g,val:=x}))] ⟨obs rfl (hg:=q0 (ah (Oy (m:={ m with val:=x}) (by show c.toNat<m.s.chans.length;rw [h.s.chans];omega) (jY _ 1) (wC _ m.g) (mV _ x)))),tt⟩ (rgs [⟨true,[.b 0],rH m,[mO p (cu { m with val:=x} c { bW m.s c with offer:=1,frm:=m.g,val:=x})]⟩] rfl ?_ ?_)
   ·have w:=sN p (cu { m with val:=x} c { bW m.s c with offer:=1,frm:=m.g,val:=x}) h.g;have q:=bQ [.b 0] p (cu { m with val:=x} c { bW m.s c with offer:=1,frm:=m.g,val:=x});have r:=bQ (bs 1) p (cu { m with val:=x} c { bW m.s c with offer:=1,frm:=m.g,val:=x});exact au
   refine wE [(0,.ptr (.b 0) 1 0 [])] [(.b 0,mO p (fB (cu { m with val:=x} c { bW m.s c with offer:=1,frm:=m.g,val:=x}) { aC m with status:=2}))] ⟨obs rfl (hg:=q0 (ah ((ac8 (λz=>AV.put z [1,3,m.g.toNat,0] (.int 2)) (iH _ _ _)).trans (CO (vM (gQ h x) c hb) (gI _ 2))))),tt⟩ (rg [] rfl ?_)
   change Fin ..
   first
   | (
    refine aJ hT [] (ts:=[]) (l:=[]) trivial trivial ⟨obs rfl (hg:=q0 (ah ?_)),tt⟩ rfl rfl rfl
    rw [iT,aa2 d]
    exact iH _ _ _)
   | (
    refine aJ hT [] (ts:=[]) (l:=[]) trivial trivial ⟨obs rfl (hg:=q0 (ah ?_)),tt⟩ rfl rfl rfl
    rw [iT,xw d,aa2 f]
    have a:c.toNat<m.s.chans.length:=by rw [h.s.chans];omega
    have j:IntKind.i64.wrap ((bW (cu { m with val:=x} c (oM (bW m.s c) (bW m.s c).len x)).s c).len+1)=(bW m.s c).len+1:=by rw [kG a];exact bK (by show _<=(bW m.s c).len+1;omega) (by show (bW m.s c).len+1<_;omega)
    show (jg p (cu { m with val:=x} c (oM (bW m.s c) (bW m.s c).len x))).put [1,2,c.toNat,1] (AV.int (IntKind.i64.wrap ((bW (cu { m with val:=x} c (oM (bW m.s c) (bW m.s c).len x)).s c).len+1)))=_
    rw [j]
    refine (nM (m:=cu { m with val:=x} c (oM (bW m.s c) (bW m.s c).len x)) (by show c.toNat<(m.s.chans.set _ _).length;rw [adI];exact a) (by rw [kG a];exact sZ _ _)).trans ?_
    rw [xE])
   | (
    refine aJ hT [] (ts:=[]) (l:=[]) trivial trivial ⟨obs rfl (hg:=q0 (ah ?_)),tt⟩ rfl rfl rfl
    rw [iT,xw d,xw f]
    exact zO _ _ _)
def jQ (l:List Int):List Int:=[l.getD 1 0,l.getD 2 0,l.getD 3 0,l.getD 3 0]
def dH (m:PM) (c:Int):PM×Bool :=
 if 0<(bW m.s c).len then (cu { m with val:=(bW m.s c).buf.getD 0 0} c { bW m.s c with buf:=(jQ (bW m.s c).buf).set ((bW m.s c).len - 1).toNat 0,len:=(bW m.s c).len - 1},true)else
 if (bW m.s c).offer=1 then (cu { m with val:=(bW m.s c).val} c { bW m.s c with offer:=2,val:=0},true)else ({ m with val:=0},false)
theorem um {m:PM} (h:mX m) (c:Int):mX (dH m c).1:=by
 have hb:(bW m.s c).buf.length=4:=kK h.s _;unfold dH;split
 ·exact vM (gQ h _) c (by show (List.set _ _ _).length=4;rw [adI];rfl)
 split;{exact vM (gQ h _) c (x:={ bW m.s c with offer:=2,val:=0}) hb};exact gQ h _
theorem Xd {l:List Int} (h:l.length=4):(AV.agg 54 4 λj=>bif Nat.ble 0 j&&Nat.blt j 3 then .int (l.getD (1+j) 0)else .int (l.getD j 0))=lC 54 4 .i64 (jQ l):=bH λj=>by
 match j with
 | 0 | 1 | 2 | 3=>rfl
 | j+4=>exact ac8 AV.int (show l.getD (j+4) 0=0 by simp [adA (show l.length<=j+4 by omega)])
theorem Yh (p:ak) (m:PM) (c:Int) (h:mX m) (hc:0<=c/\c<4) (hlen:(bW m.s c).len<=4):AC Tryz.prog T aH 226 [.ptr (.b 0) 1 0 [],.int c] [mO p m] (.bool (dH m c).2) [mO p (dH m c).1]:=by
 refine aX Tryz.func226 ?_;have hb:(bW m.s c).buf.length=4:=kK h.s _;have a:c.toNat<m.s.chans.length:=by rw [h.s.chans];omega
 refine sg rfl (sq (rgs [] rfl ?_ ?_))
 ·simp [-List.getD_eq_getElem?_getD,ay,under];omega
 refine sq (bk (sq (rg [] rfl ?_)));refine cd rfl (λj=>?_) (λj=>?_)
 ·(have d:0<(bW m.s c).len:=by simp [-List.getD_eq_getElem?_getD]at j;omega);refine sg rfl (sq ?_);refine wE [(5,chM c)] [(.b 0,mO p { m with val:=(bW m.s c).buf.getD 0 0})] ⟨obs rfl (hg:=q0 (ah (kW _ _ _))),tt⟩ (dr [] rfl ?_);refine sq (wE [(5,chM c)] [(.b 0,mO p (cu { m with val:=(bW m.s c).buf.getD 0 0} c { bW m.s c with buf:=jQ (bW m.s c).buf}))] ⟨obs rfl (hg:=q0 (ah (nM (m:={ m with val:=(bW m.s c).buf.getD 0 0}) a ((ac8 (λz=>(eF (bW m.s c)).put [0] z) (Xd hb)).trans (dh (abZ rfl)))))),tt⟩ ?_);refine rg [] rfl ?_;(have k:IntKind.i64.wrap ((bW (cu { m with val:=(bW m.s c).buf.getD 0 0} c { bW m.s c with buf:=jQ (bW m.s c).buf}).s c).len - 1)=(bW m.s c).len - 1:=by rw [kG a];exact bK (by show _<=(bW m.s c).len - 1;omega) (by show (bW m.s c).len - 1<_;omega));refine wE [(5,chM c)] [(.b 0,mO p (cu { m with val:=(bW m.s c).buf.getD 0 0} c { bW m.s c with buf:=jQ (bW m.s c).buf,len:=(bW m.s c).len - 1}))] ⟨obs rfl (hg:=q0 (ah ((ac8 (λz=>AV.put (jg p (cu { m with val:=(bW m.s c).buf.getD 0 0} c { bW m.s c with buf:=jQ (bW m.s c).buf})) [1,2,c.toNat,1] (.int z)) k).trans ((nM (m:=cu { m with val:=(bW m.s c).buf.getD 0 0} c { bW m.s c with buf:=jQ (bW m.s c).buf}) (by show c.toNat<(m.s.chans.set _ _).length;rw [adI];exact a) (by rw [kG a];exact sZ _ _)).trans (by rw [xE]))))),tt⟩ (drs [] rfl ?_ ?_);{(have e:(bW (cu { m with val:=(bW m.s c).buf.getD 0 0} c { bW m.s c with buf:=jQ (bW m.s c).buf,len:=(bW m.s c).len - 1}).s c).len=(bW m.s c).len - 1:=by rw [kG a]);(have hA:0<=(bW (cu { m with val:=(bW m.s c).buf.getD 0 0} c { bW m.s c with buf:=jQ (bW m.s c).buf,len:=(bW m.s c).len - 1}).s c).len/\(bW (cu { m with val:=(bW m.s c).buf.getD 0 0} c { bW m.s c with buf:=jQ (bW m.s c).buf,len:=(bW m.s c).len - 1}).s c).len<4:=by rw [e];omega);simp only [ay,under,CG.pure];(repeat' with_reducible refine And.intro ?_ ?_);(all_goals (try with_reducible intros));all_goals (first | exact trivial | assumption | omega | exact hA | exact hA.1 | exact hA.2 | (simp;done) | grind)};refine sg rfl (rX ?_);(have e:(bW (cu { m with val:=(bW m.s c).buf.getD 0 0} c { bW m.s c with buf:=jQ (bW m.s c).buf,len:=(bW m.s c).len - 1}).s c).len=(bW m.s c).len - 1:=by rw [kG a]);(have g:dH m c=(cu { m with val:=(bW m.s c).buf.getD 0 0} c { bW m.s c with buf:=(jQ (bW m.s c).buf).set ((bW m.s c).len - 1).toNat 0,len:=(bW m.s c).len - 1},true):=by rw [dH,aa2 d]);rw [g];refine aJ hT [] (ts:=[(4,.bool true)]) (l:=[.bool true]) trivial cX ⟨obs rfl (hg:=q0 (ah ?_)),tt⟩ rfl rfl rfl;show (jg p (cu { m with val:=(bW m.s c).buf.getD 0 0} c { bW m.s c with buf:=jQ (bW m.s c).buf,len:=(bW m.s c).len - 1})).put [1,2,c.toNat,0,(bW (cu { m with val:=(bW m.s c).buf.getD 0 0} c { bW m.s c with buf:=jQ (bW m.s c).buf,len:=(bW m.s c).len - 1}).s c).len.toNat] (.int 0)=_;rw [e];refine (nM (m:=cu { m with val:=(bW m.s c).buf.getD 0 0} c { bW m.s c with buf:=jQ (bW m.s c).buf,len:=(bW m.s c).len - 1}) (by show c.toNat<(m.s.chans.set _ _).length;rw [adI];exact a) (by rw [kG a];exact wG 0 (by show _<4;omega))).trans ?_;rw [xE]
 (have d:¬ 0<(bW m.s c).len:=by simp [-List.getD_eq_getElem?_getD]at j;exact Int.not_lt.mpr j);refine sg rfl (cd rfl (λi=>?_) (λi=>?_));{(have f:(bW m.s c).offer=1:=by simp [-List.getD_eq_getElem?_getD]at i;exact i);refine sg rfl (wE [(5,chM c)] [(.b 0,mO p { m with val:=(bW m.s c).val})] ⟨obs rfl (hg:=q0 (ah (kW _ _ _))),tt⟩ ?_);refine rg [] rfl (sg rfl ?_);refine rX ?_;(have g:dH m c=(cu { m with val:=(bW m.s c).val} c { bW m.s c with offer:=2,val:=0},true):=by rw [dH,xw d,aa2 f]);rw [g];exact aJ hT [] (ts:=[(4,.bool true)]) (l:=[.bool true]) trivial cX ⟨obs rfl (hg:=q0 (ah (CP (m:={ m with val:=(bW m.s c).val}) a (jY _ 2) (mV _ 0)))),tt⟩ rfl rfl rfl};(have f:¬ (bW m.s c).offer=1:=by simp [-List.getD_eq_getElem?_getD]at i;exact i);refine sg rfl (sg rfl ?_);refine rX ?_;(have g:dH m c=({ m with val:=0},false):=by rw [dH,xw d,xw f]);rw [g];exact aJ hT [] (ts:=[(4,.bool false)]) (l:=[.bool false]) trivial cX ⟨obs rfl (hg:=q0 (ah (kW _ _ _))),tt⟩ rfl rfl rfl
def lH (m:PM) (c:Int):PM:=fB (cu m c { bW m.s c with offer:=0,frm:=0,val:=0}) { aC m with status:=1}
def qK (m:PM) (c:Int):PM:=if (bW m.s c).offer=3 then kC (lH m c) 4 else lH m c
theorem xQ {m:PM} (h:mX m) (c:Int):mX (lH m c):=X4 (vM h c (x:={ bW m.s c with offer:=0,frm:=0,val:=0}) (kK h.s _)) (x:={ aC m with status:=1}) (gZ h.s _)
theorem Vu (p:ak) (m:PM) (c:Int) (h:mX m) (hc:0<=c/\c<4):AC Tryz.prog T aH 229 [.ptr (.b 0) 1 0 [],.int c] [mO p m] (.tup []) [mO p (qK m c)]:=by
 refine aX Tryz.func229 ?_;have a:c.toNat<m.s.chans.length:=by rw [h.s.chans];omega
 have hb:Em (bW m.s c):=kK h.s _;refine sq (rgs [] rfl ?_ ?_)
 ·simp [-List.getD_eq_getElem?_getD,ay,under];omega
 refine sg rfl (sg rfl ?_);refine sq (wE [(0,.ptr (.b 0) 1 0 []),(5,.bool ((bW m.s c).offer==3))] [(.b 0,mO p (cu m c { bW m.s c with offer:=0,frm:=0,val:=0}))] ⟨obs rfl (hg:=q0 (ah (Oy a (jY _ 0) (wC _ 0) (mV _ 0)))),tt⟩ ?_);refine rgs [⟨true,[.b 0],rH m,[mO p (cu m c { bW m.s c with offer:=0,frm:=0,val:=0})]⟩] rfl ?_ ?_
 ·have i:=sN p (cu m c { bW m.s c with offer:=0,frm:=0,val:=0}) h.g;have e:=bQ [.b 0] p (cu m c { bW m.s c with offer:=0,frm:=0,val:=0});have f:=bQ (bs 1) p (cu m c { bW m.s c with offer:=0,frm:=0,val:=0});exact au
 refine sq (wE [(0,.ptr (.b 0) 1 0 []),(5,.bool ((bW m.s c).offer==3))] [(.b 0,mO p (lH m c))] ⟨obs rfl (hg:=q0 (ah ((ac8 (λz=>AV.put z [1,3,m.g.toNat,0] (.int 1)) (iH _ _ _)).trans (CO (vM h c (x:={ bW m.s c with offer:=0,frm:=0,val:=0}) hb) (gI _ 1))))),tt⟩ ?_);refine rg [] rfl (cd rfl (λd=>?_) (λd=>?_))
 ·have hl:(bW m.s c).offer=3:=by simpa using d
  refine rgs [⟨true,[.b 0],.tup [],[mO p (kC (lH m c) 4)]⟩] rfl ?_ ?_
  ·have i:=wS p (lH m c) 4 (xQ h c);have e:=bQ [.b 0] p (lH m c);have f:=bQ (bs 1) p (kC (lH m c) 4);exact au
  change Fin ..
  first
  | (
   refine aJ hT [] (ts:=[]) (l:=[]) trivial trivial ⟨obs rfl (hg:=q0 (ah ?_)),tt⟩ rfl rfl rfl
   rw [qK,aa2 hl]
   exact iH _ _ _)
  | (
   refine aJ hT [] (ts:=[]) (l:=[]) trivial trivial ⟨obs rfl (hg:=q0 (ah ?_)),tt⟩ rfl rfl rfl
   rw [qK,xw hl])
 ·have hl:¬ (bW m.s c).offer=3:=by simpa using d
  refine sk ?_
  change Fin ..
  first
  | (
   refine aJ hT [] (ts:=[]) (l:=[]) trivial trivial ⟨obs rfl (hg:=q0 (ah ?_)),tt⟩ rfl rfl rfl
   rw [qK,aa2 hl]
   exact iH _ _ _)
  | (
   refine aJ hT [] (ts:=[]) (l:=[]) trivial trivial ⟨obs rfl (hg:=q0 (ah ?_)),tt⟩ rfl rfl rfl
   rw [qK,xw hl])
def oq (m:PM) (c:Int):PM:=if (bW m.s c).closed=true then kC m 5 else if (bW m.s c).offer=1 then cu m c { bW m.s c with closed:=true,offer:=3,val:=0}else cu m c { bW m.s c with closed:=true}
theorem Yd (p:ak) (m:PM) (c:Int) (h:mX m) (hc:0<=c/\c<4):AC Tryz.prog T aH 230 [.ptr (.b 0) 1 0 [],.int c] [mO p m] (.tup []) [mO p (oq m c)]:=by
 refine aX Tryz.func230 ?_;have a:c.toNat<m.s.chans.length:=by rw [h.s.chans];omega
 refine sq (rgs [] rfl ?_ ?_)
 ·simp [-List.getD_eq_getElem?_getD,ay,under];omega
 refine sq (sq (rg [] rfl ?_));refine cd rfl (λi=>?_) (λi=>?_)
 ·have d:(bW m.s c).closed=true:=i;refine sq (rgs [⟨true,[.b 0],.tup [],[mO p (kC m 5)]⟩] rfl ?_ ?_);{have o:=wS p m 5 h;have k:=bQ [.b 0] p m;have n:=bQ (bs 1) p (kC m 5);exact au};refine rX ?_;refine aJ hT [] (ts:=[]) (l:=[]) trivial trivial ⟨obs rfl (hg:=q0 (ah ?_)),tt⟩ rfl rfl rfl;rw [oq,aa2 d];exact iH _ _ _
 ·have d:¬ (bW m.s c).closed=true:=λe=>absurd (i.symm.trans e) (by decide)
  refine sk (sq (rg [] rfl ?_))
  refine sq ?_
  have g:(bW (cu m c { bW m.s c with closed:=true}).s c)={ bW m.s c with closed:=true}:=kG a
  refine wE [(4,chM c)] [(.b 0,mO p (cu m c { bW m.s c with closed:=true}))] ⟨obs rfl (hg:=q0 (ah (nM a (xO _ true)))),tt⟩ (rg [] rfl ?_)
  refine cd rfl (λj=>?_) (λj=>?_)
  ·have f:(bW m.s c).offer=1:=eq_of_beq ((ac8 (λz:iU=>z.offer==1) g).symm.trans j)
   refine rg [] rfl ?_
   change Fin ..
   first
   | (
    refine aJ hT [] (ts:=[]) (l:=[]) trivial trivial ⟨obs rfl (hg:=q0 (ah ?_)),tt⟩ rfl rfl rfl
    rw [oq,xw d,aa2 f]
    refine (CP (m:=cu m c { bW m.s c with closed:=true}) (x:={ bW m.s c with closed:=true,offer:=3}) (x':={ bW m.s c with closed:=true,offer:=3,val:=0}) (by show c.toNat<(m.s.chans.set _ _).length;rw [adI];exact a) (by rw [g];exact jY _ 3) (mV _ 0)).trans ?_
    rw [xE])
   | (
    refine aJ hT [] (ts:=[]) (l:=[]) trivial trivial ⟨obs rfl (hg:=q0 (ah ?_)),tt⟩ rfl rfl rfl
    rw [oq,xw d,xw f])
  ·have f:¬ (bW m.s c).offer=1:=λe=>absurd ((beq_iff_eq.2 e).symm.trans ((ac8 (λz:iU=>z.offer==1) g).symm.trans j)) (by decide)
   refine sk ?_
   change Fin ..
   first
   | (
    refine aJ hT [] (ts:=[]) (l:=[]) trivial trivial ⟨obs rfl (hg:=q0 (ah ?_)),tt⟩ rfl rfl rfl
    rw [oq,xw d,aa2 f]
    refine (CP (m:=cu m c { bW m.s c with closed:=true}) (x:={ bW m.s c with closed:=true,offer:=3}) (x':={ bW m.s c with closed:=true,offer:=3,val:=0}) (by show c.toNat<(m.s.chans.set _ _).length;rw [adI];exact a) (by rw [g];exact jY _ 3) (mV _ 0)).trans ?_
    rw [xE])
   | (
    refine aJ hT [] (ts:=[]) (l:=[]) trivial trivial ⟨obs rfl (hg:=q0 (ah ?_)),tt⟩ rfl rfl rfl
    rw [oq,xw d,xw f])
theorem OL {m:PM} (h:mX m) (c:Int):mX (oq m c):=by
 have hb:Em (bW m.s c):=kK h.s _;unfold oq;split
 ·exact wK h 5
 split;{exact vM h c (x:={ bW m.s c with closed:=true,offer:=3,val:=0}) hb};exact vM h c (x:={ bW m.s c with closed:=true}) hb
theorem Vr {m:PM} (h:mX m) (c:Int):mX (qK m c):=by
 unfold qK;split
 ·exact wK (xQ h c) 4
 exact xQ h c
def iC (b:Bool):Int:=if b then 1 else 0
theorem En (b:Bool):AC Tryz.prog T aH 228 [.bool b] [] (.int (iC b)) []:=by
 refine aX Tryz.func228 ?_;refine sg rfl (sq (sq (rg [] rfl ?_)));refine cd rfl (λa=>?_) (λa=>?_)
 ·refine sg rfl (rX ?_);refine bf hT (by rfl) ?_;simp_all [iC]
 refine sk (sq (rg [] rfl ?_));refine rX ?_;refine bf hT (by rfl) ?_;simp_all [iC]
abbrev setVar (m:PM) (k x:Int):PM:={ m with s:={ m.s with vars:=m.s.vars.set k.toNat x} }
abbrev vH (m:PM) (k x:Int):PM:={ m with s:={ m.s with owner:=m.s.owner.set k.toNat x} }
abbrev dK (m:PM) (x:Int):PM:={ m with val:=x}
theorem LK {m:PM} (h:mX m) (k x:Int):mX (setVar m k x):=⟨h.s.setVar _ _,h.g⟩
theorem LM {m:PM} (h:mX m) (k x:Int):mX (vH m k x):=⟨h.s.setOwn _ _,h.g⟩
theorem GX {p:ak} {m:PM} (h:mX m) {k:Int} (hk:0<=k/\k<8) (x:Int):(jg p m).put [1,0,k.toNat] (.int x)=jg p (setVar m k x):=AX (wz x (by rw [h.s.vars];omega))
theorem GY {p:ak} {m:PM} (h:mX m) {k:Int} (hk:0<=k/\k<4) (x:Int):(jg p m).put [1,1,k.toNat] (.int x)=jg p (vH m k x):=AX (CJ x (by rw [h.s.owner];omega))
def jJ (m:PM) (x:iG):PM:=if iC (jD m.s x.b==bn (aC m) x.c)=1 then setVar (dK m (iC (jD m.s x.b==bn (aC m) x.c))) x.b (bn (aC m) x.n)else dK m (iC (jD m.s x.b==bn (aC m) x.c))
def jH (m:PM) (x:iG):PM:=if iC (mJ m.s x.b==0)=1 then vH (dK m (iC (mJ m.s x.b==0))) x.b (m.g+1)else dK m (iC (mJ m.s x.b==0))
def sH (m:PM) (x:iG):PM:=bU (dK m (bn (aC m) x.c)) x.a (jD m.s x.b)
def bG (m:PM) (x:iG):PM×Bool :=
 if x.op=50 then (bU (dK m (jD m.s x.b)) x.a (jD m.s x.b),true)else if x.op=51 then (setVar (dK m (bn (aC m) x.b)) x.a (bn (aC m) x.b),true)else
 if x.op=52 then (setVar (sH m x) x.b (wI (jD (sH m x).s x.b+(sH m x).val)),true)else
 if x.op=53 then (bU (jJ m x) x.a (iC (jD m.s x.b==bn (aC m) x.c)),true)else if x.op=54 then (dK m (bn (aC m) x.b),true)else
 if x.op=55 then (vH m x.a (m.g+1),true)else if x.op=56 then (if mJ m.s x.a≠m.g+1 then (kC m 6,true)else (vH m x.a 0,true))else
 if x.op=57 then (bU (jH m x) x.a (iC (mJ m.s x.b==0)),true)else (m,false)
theorem CW {m:PM} (h:mX m) (x:iG):mX (jJ m x):=by
 unfold jJ;split
 ·exact LK (gQ h _) _ _
 exact gQ h _
theorem CU {m:PM} (h:mX m) (x:iG):mX (jH m x):=by
 unfold jH;split
 ·exact LM (gQ h _) _ _
 exact gQ h _
theorem Hy {m:PM} (h:mX m) (x:iG):mX (sH m x):=pq (gQ h _) _ _
theorem Ht {m:PM} (h:mX m) (x:iG):mX (bG m x).1:=by
 unfold bG;repeat' split
 ·exact pq (gQ h _) _ _
 ·exact LK (gQ h _) _ _
 ·exact LK (Hy h x) _ _
 ·exact pq (CW h x) _ _
 ·exact gQ h _
 ·exact LM h _ _
 ·exact wK h _
 ·exact LM h _ _
 ·exact pq (CU h x) _ _
 exact h
theorem UA (p:ak) (m:PM) (F:gq) (x:iG) (h:mX m) (hp:qJ p) (hF:xk p F) (hi:x.op≠66->DN p F x):AC Tryz.prog T aH 224 [.ptr (.b 0) 1 0 [],aQ x] [mO p m] (.bool (bG m x).2) [mO p (bG m x).1]:=by
 refine aX Tryz.func224 ?_;have hr:=hF.regs;have hv:=hp.vars;have b4:=hp.locks;have hg:=h.g;have h8:(aC m).regs.length=8:=gZ h.s _;have q:IntKind.i64.wrap (m.g+1)=m.g+1:=bK (by omega) (by omega);refine sg rfl (sq ?_);refine wQ [(.s 3 0,1)] [(0,.ptr (.b 0) 1 0 []),(3,.rp 120 (aQ x))] [(.b 0,mO p m)] ⟨obs rfl,tt⟩ (rgs [⟨true,[.b 0],rH m,[mO p m]⟩] rfl ?_ ?_)
 ·have j:=sN p m h.g;have i:=bQ [.b 0] p m;have f:=bQ (bs 1) p m;exact au
 refine sq (sq ?_);refine wQ [(.s 5 0,1)] [(0,.ptr (.b 0) 1 0 []),(3,.rp 120 (aQ x)),(5,.rp 52 (lC 52 8 .i64 (aC m).regs))] [(.b 0,mO p m)] ⟨obs rfl (hg:=q0 (ah (iH _ _ _))),tt⟩ (rg [] rfl ?_);refine bk (sq (rg [] rfl ?_));refine cd rfl (λh4=>?_) (λh4=>?_)
 ·(have e:x.op=50:=by simpa using h4);have hx:=(hi (by omega)).load e;simp only [jc,aZ]at hx;refine sq (drs [] rfl ?_ ?_);{simp [-List.getD_eq_getElem?_getD,ay,under];omega};refine wE [(0,.ptr (.b 0) 1 0 []),(3,.rp 120 (aQ x))] [(.b 0,mO p (dK m (jD m.s x.b)))] ⟨obs rfl (hg:=q0 (ah (kW _ _ _))),tt⟩ (drs [⟨true,[.b 0],.tup [],[mO p (bU (dK m (jD m.s x.b)) x.a (jD m.s x.b))]⟩] rfl ?_ ?_);{have j:=oU p (dK m (jD m.s x.b)) x.a (jD m.s x.b) (gQ h _) (by omega);have i:=bQ [.b 0] p (dK m (jD m.s x.b));have f:=bQ (bs 1) p (bU (dK m (jD m.s x.b)) x.a (jD m.s x.b));exact au};refine sg rfl (rX ?_);(have d:bG m x=(bU (dK m (jD m.s x.b)) x.a (jD m.s x.b),true):=by rw [bG,aa2 e]);rw [d];exact aJ hT [] (ts:=[(4,.bool true)]) (l:=[.bool true]) trivial cX ⟨obs rfl (hg:=q0 (ah (iH _ _ _))),tt⟩ rfl rfl rfl
 (have a4:x.op≠50:=by simpa using h4);refine sg rfl (cd rfl (λh7=>?_) (λh7=>?_));{(have e:x.op=51:=by simpa using h7);have hx:=(hi (by omega)).store (.inl e);simp only [jc,aZ]at hx;refine sq (rgs [] rfl ?_ ?_);{simp [-List.getD_eq_getElem?_getD,ay,under];omega};refine wE [(0,.ptr (.b 0) 1 0 []),(3,.rp 120 (aQ x))] [(.b 0,mO p (dK m (bn (aC m) x.b)))] ⟨obs rfl (hg:=q0 (ah (kW _ _ _))),tt⟩ (drs [] rfl ?_ ?_);{simp [-List.getD_eq_getElem?_getD,ay,under];omega};refine sg rfl (rX ?_);(have d:bG m x=(setVar (dK m (bn (aC m) x.b)) x.a (bn (aC m) x.b),true):=by simp only [bG,e];rfl);rw [d];exact aJ hT [] (ts:=[(4,.bool true)]) (l:=[.bool true]) trivial cX ⟨obs rfl (hg:=q0 (ah (GX (gQ h _) (by omega) _))),tt⟩ rfl rfl rfl};(have a5:x.op≠51:=by simpa using h7);refine sg rfl (cd rfl (λr=>?_) (λr=>?_));{(have e:x.op=52:=by simpa using r);have hx:=(hi (by omega)).bump e;simp only [jc,aZ]at hx;refine sq (rgs [] rfl ?_ ?_);{simp [-List.getD_eq_getElem?_getD,ay,under];omega};refine sq (wE [(0,.ptr (.b 0) 1 0 []),(3,.rp 120 (aQ x))] [(.b 0,mO p (dK m (bn (aC m) x.c)))] ⟨obs rfl (hg:=q0 (ah (kW _ _ _))),tt⟩ ?_);refine drs [⟨true,[.b 0],.tup [],[mO p (sH m x)]⟩] rfl ?_ ?_;{have j:=oU p (dK m (bn (aC m) x.c)) x.a (jD m.s x.b) (gQ h _) (by omega);have i:=bQ [.b 0] p (dK m (bn (aC m) x.c));have f:=bQ (bs 1) p (sH m x);exact au};refine wE [(0,.ptr (.b 0) 1 0 []),(3,.rp 120 (aQ x))] [(.b 0,mO p (sH m x))] ⟨obs rfl (hg:=q0 (ah (iH _ _ _))),tt⟩ (drs [] rfl ?_ ?_);{simp [-List.getD_eq_getElem?_getD,ay,under];omega};refine sg rfl (rX ?_);(have d:bG m x=(setVar (sH m x) x.b (wI (jD (sH m x).s x.b+(sH m x).val)),true):=by simp only [bG,e];rfl);rw [d];exact aJ hT [] (ts:=[(4,.bool true)]) (l:=[.bool true]) trivial cX ⟨obs rfl (hg:=q0 (ah (GX (Hy h x) (by omega) _))),tt⟩ rfl rfl rfl};(have a6:x.op≠52:=by simpa using r);refine sg rfl (cd rfl (λt=>?_) (λt=>?_));{(have e:x.op=53:=by simpa using t);have hx:=(hi (by omega)).cas e;simp only [jc,aZ]at hx;refine sq (drs [CG.pure (.int (iC (jD m.s x.b==bn (aC m) x.c)))] rfl ?_ ?_);{have j:=En (jD m.s x.b==bn (aC m) x.c);exact au};refine sq (sq ?_);refine wE [(0,.ptr (.b 0) 1 0 []),(3,.rp 120 (aQ x)),(5,.rp 52 (lC 52 8 .i64 (aC m).regs))] [(.b 0,mO p (dK m (iC (jD m.s x.b==bn (aC m) x.c))))] ⟨obs rfl (hg:=q0 (ah (kW _ _ _))),tt⟩ (rg [] rfl ?_);refine cd rfl (λu=>?_) (λu=>?_);{have o:iC (jD m.s x.b==bn (aC m) x.c)=1:=eq_of_beq u;(have k:jJ m x=setVar (dK m (iC (jD m.s x.b==bn (aC m) x.c))) x.b (bn (aC m) x.n):=by rw [jJ,aa2 o]);refine drs [] rfl ?_ ?_;{simp [-List.getD_eq_getElem?_getD,ay,under];omega};refine wE [(0,.ptr (.b 0) 1 0 []),(3,.rp 120 (aQ x))] [(.b 0,mO p (jJ m x))] ⟨obs rfl (hg:=q0 (ah (by rw [k];exact GX (gQ h _) (by omega) _))),tt⟩ (drs [⟨true,[.b 0],.tup [],[mO p (bU (jJ m x) x.a (iC (jD m.s x.b==bn (aC m) x.c)))]⟩] rfl ?_ ?_);{(have ev:(jJ m x).val=iC (jD m.s x.b==bn (aC m) x.c):=by rw [k]);have j:=oU p (jJ m x) x.a (iC (jD m.s x.b==bn (aC m) x.c)) (CW h x) (by omega);have i:=bQ [.b 0] p (jJ m x);have f:=bQ (bs 1) p (bU (jJ m x) x.a (iC (jD m.s x.b==bn (aC m) x.c)));rw [<- ev]at j f ⊢;exact au};refine sg rfl (rX ?_);(have d:bG m x=(bU (jJ m x) x.a (iC (jD m.s x.b==bn (aC m) x.c)),true):=by simp only [bG,e];rfl);rw [d];exact aJ hT [] (ts:=[(4,.bool true)]) (l:=[.bool true]) trivial cX ⟨obs rfl (hg:=q0 (ah (iH _ _ _))),tt⟩ rfl rfl rfl};have o:¬ iC (jD m.s x.b==bn (aC m) x.c)=1:=λe=>absurd ((beq_iff_eq.2 e).symm.trans u) (by decide);(have k:jJ m x=dK m (iC (jD m.s x.b==bn (aC m) x.c)):=by rw [jJ,xw o]);refine sk (wE [(0,.ptr (.b 0) 1 0 []),(3,.rp 120 (aQ x))] [(.b 0,mO p (jJ m x))] ⟨obs rfl (hg:=q0 (ah (by rw [k]))),tt⟩ ?_);refine drs [⟨true,[.b 0],.tup [],[mO p (bU (jJ m x) x.a (iC (jD m.s x.b==bn (aC m) x.c)))]⟩] rfl ?_ ?_;{(have ev:(jJ m x).val=iC (jD m.s x.b==bn (aC m) x.c):=by rw [k]);have j:=oU p (jJ m x) x.a (iC (jD m.s x.b==bn (aC m) x.c)) (CW h x) (by omega);have i:=bQ [.b 0] p (jJ m x);have f:=bQ (bs 1) p (bU (jJ m x) x.a (iC (jD m.s x.b==bn (aC m) x.c)));rw [<- ev]at j f ⊢;exact au};refine sg rfl (rX ?_);(have d:bG m x=(bU (jJ m x) x.a (iC (jD m.s x.b==bn (aC m) x.c)),true):=by simp only [bG,e];rfl);rw [d];exact aJ hT [] (ts:=[(4,.bool true)]) (l:=[.bool true]) trivial cX ⟨obs rfl (hg:=q0 (ah (iH _ _ _))),tt⟩ rfl rfl rfl};(have a7:x.op≠53:=by simpa using t);refine sg rfl (cd rfl (λv=>?_) (λv=>?_));{(have e:x.op=54:=by simpa using v);have hx:=(hi (by omega)).store (.inr e);simp only [jc,aZ]at hx;refine rgs [] rfl ?_ ?_;{simp [-List.getD_eq_getElem?_getD,ay,under];omega};refine sg rfl (rX ?_);(have d:bG m x=(dK m (bn (aC m) x.b),true):=by simp only [bG,e];rfl);rw [d];exact aJ hT [] (ts:=[(4,.bool true)]) (l:=[.bool true]) trivial cX ⟨obs rfl (hg:=q0 (ah (kW _ _ _))),tt⟩ rfl rfl rfl};(have a8:x.op≠54:=by simpa using v);refine sg rfl (cd rfl (λw=>?_) (λw=>?_));{(have e:x.op=55:=by simpa using w);have hx:=(hi (by omega)).lock (.inl e);refine drs [] rfl ?_ ?_;{simp [-List.getD_eq_getElem?_getD,ay,under];omega};refine sg rfl (rX ?_);(have d:bG m x=(vH m x.a (m.g+1),true):=by simp only [bG,e];rfl);rw [d];exact aJ hT [] (ts:=[(4,.bool true)]) (l:=[.bool true]) trivial cX ⟨obs rfl (hg:=q0 (ah ((ac8 (λz=>(jg p m).put [1,1,x.a.toNat] (.int z)) q).trans (GY h (by omega) _)))),tt⟩ rfl rfl rfl};(have a9:x.op≠55:=by simpa using w);refine sg rfl (cd rfl (λy=>?_) (λy=>?_));{(have e:x.op=56:=by simpa using y);have hx:=(hi (by omega)).lock (.inr e);refine sq (sq (drs [] rfl ?_ ?_));{simp [-List.getD_eq_getElem?_getD,ay,under];omega};refine cd rfl (λa0=>?_) (λa0=>?_);{(have o:mJ m.s x.a≠m.g+1:=by have h9:(mJ m.s x.a != IntKind.i64.wrap (m.g+1))=true:=a0;rw [q]at h9;exact bne_iff_ne.1 h9);refine sq (rgs [⟨true,[.b 0],.tup [],[mO p (kC m 6)]⟩] rfl ?_ ?_);{have j:=wS p m 6 h;have i:=bQ [.b 0] p m;have f:=bQ (bs 1) p (kC m 6);exact au};refine sg rfl (rX ?_);(have d:bG m x=(kC m 6,true):=by simp only [bG,e];exact aa2 o);rw [d];exact aJ hT [] (ts:=[(4,.bool true)]) (l:=[.bool true]) trivial cX ⟨obs rfl (hg:=q0 (ah (iH _ _ _))),tt⟩ rfl rfl rfl};(have o:¬ mJ m.s x.a≠m.g+1:=by have h9:(mJ m.s x.a != IntKind.i64.wrap (m.g+1))=false:=a0;rw [q]at h9;simpa using h9);refine sk (drs [] rfl ?_ ?_);{simp [-List.getD_eq_getElem?_getD,ay,under];omega};refine sg rfl (rX ?_);(have d:bG m x=(vH m x.a 0,true):=by simp only [bG,e];exact xw o);rw [d];exact aJ hT [] (ts:=[(4,.bool true)]) (l:=[.bool true]) trivial cX ⟨obs rfl (hg:=q0 (ah (GY h (by omega) _))),tt⟩ rfl rfl rfl};(have b0:x.op≠56:=by simpa using y);refine sg rfl (cd rfl (λa1=>?_) (λa1=>?_));{(have e:x.op=57:=by simpa using a1);have hx:=(hi (by omega)).try_ e;simp only [jc,aZ]at hx;refine sq (drs [CG.pure (.int (iC (mJ m.s x.b==0)))] rfl ?_ ?_);{have j:=En (mJ m.s x.b==0);exact au};refine sq (sq ?_);refine wE [(0,.ptr (.b 0) 1 0 []),(3,.rp 120 (aQ x))] [(.b 0,mO p (dK m (iC (mJ m.s x.b==0))))] ⟨obs rfl (hg:=q0 (ah (kW _ _ _))),tt⟩ (rg [] rfl ?_);refine cd rfl (λa2=>?_) (λa2=>?_);{have o:iC (mJ m.s x.b==0)=1:=eq_of_beq a2;(have k:jH m x=vH (dK m (iC (mJ m.s x.b==0))) x.b (m.g+1):=by rw [jH,aa2 o]);refine drs [] rfl ?_ ?_;{simp [-List.getD_eq_getElem?_getD,ay,under];omega};refine wE [(0,.ptr (.b 0) 1 0 []),(3,.rp 120 (aQ x))] [(.b 0,mO p (jH m x))] ⟨obs rfl (hg:=q0 (ah (by rw [k];exact (ac8 (λz=>(jg p (dK m (iC (mJ m.s x.b==0)))).put [1,1,x.b.toNat] (.int z)) q).trans (GY (gQ h _) (by omega) _)))),tt⟩ (drs [⟨true,[.b 0],.tup [],[mO p (bU (jH m x) x.a (iC (mJ m.s x.b==0)))]⟩] rfl ?_ ?_);{(have ev:(jH m x).val=iC (mJ m.s x.b==0):=by rw [k]);have j:=oU p (jH m x) x.a (iC (mJ m.s x.b==0)) (CU h x) (by omega);have i:=bQ [.b 0] p (jH m x);have f:=bQ (bs 1) p (bU (jH m x) x.a (iC (mJ m.s x.b==0)));rw [<- ev]at j f ⊢;exact au};refine sg rfl (rX ?_);(have d:bG m x=(bU (jH m x) x.a (iC (mJ m.s x.b==0)),true):=by simp only [bG,e];rfl);rw [d];exact aJ hT [] (ts:=[(4,.bool true)]) (l:=[.bool true]) trivial cX ⟨obs rfl (hg:=q0 (ah (iH _ _ _))),tt⟩ rfl rfl rfl};have o:¬ iC (mJ m.s x.b==0)=1:=λe=>absurd ((beq_iff_eq.2 e).symm.trans a2) (by decide);(have k:jH m x=dK m (iC (mJ m.s x.b==0)):=by rw [jH,xw o]);refine sk (wE [(0,.ptr (.b 0) 1 0 []),(3,.rp 120 (aQ x))] [(.b 0,mO p (jH m x))] ⟨obs rfl (hg:=q0 (ah (by rw [k]))),tt⟩ ?_);refine drs [⟨true,[.b 0],.tup [],[mO p (bU (jH m x) x.a (iC (mJ m.s x.b==0)))]⟩] rfl ?_ ?_;{(have ev:(jH m x).val=iC (mJ m.s x.b==0):=by rw [k]);have j:=oU p (jH m x) x.a (iC (mJ m.s x.b==0)) (CU h x) (by omega);have i:=bQ [.b 0] p (jH m x);have f:=bQ (bs 1) p (bU (jH m x) x.a (iC (mJ m.s x.b==0)));rw [<- ev]at j f ⊢;exact au};refine sg rfl (rX ?_);(have d:bG m x=(bU (jH m x) x.a (iC (mJ m.s x.b==0)),true):=by simp only [bG,e];rfl);rw [d];exact aJ hT [] (ts:=[(4,.bool true)]) (l:=[.bool true]) trivial cX ⟨obs rfl (hg:=q0 (ah (iH _ _ _))),tt⟩ rfl rfl rfl};(have b1:x.op≠57:=by simpa using a1);refine sg rfl (rX ?_);(have d:bG m x=(m,false):=by rw [bG,xw a4,xw a5,xw a6,xw a7,xw a8,xw a9,xw b0,xw b1]);rw [d];exact aJ hT [] (ts:=[(4,.bool false)]) (l:=[.bool false]) trivial cX ⟨obs rfl,tt⟩ rfl rfl rfl
def yR (g:iW) (c:Int) (k:Nat):List Int:=(List.range 8).map λi=>if i<k then bn g (c+i)else 0
theorem Hg (g:iW) (c:Int) (k:Nat):(yR g c k).length=8:=by simp [yR]
theorem OE {g:iW} {c:Int} {k:Nat} (h:k<8):(yR g c k).set k (bn g (c+k))=yR g c (k+1):=by
 refine ae0 (by simp [yR]) λi b a=>?_;have hi:i<8:=by simpa [yR]using a
 rw [List.getElem_set];simp only [yR,ae1,aeN];split
 ·subst_vars;rw [aa2 (by omega)]
 by_cases e:i<k;{rw [aa2 e,aa2 (by omega)]};rw [xw e,xw (by omega)]
def qW (g:iW) (x:iG) (k:Nat):iW:={ status:=1,func:=x.b,pc:=0,why:=0,regs:=yR g x.c k}
abbrev qN (p:ak) (x:iG):Int:=(p.funcs.getD x.b.toNat jI).params
def jM (p:ak) (m:PM) (x:iG):PM:={ m with s:={ m.s with gos:=m.s.gos.set m.s.count.toNat (qW (aC m) x (qN p x).toNat),count:=m.s.count+1},val:=m.s.count}
def jv (p:ak) (m:PM) (x:iG):PM×Int:=if m.s.count=6 then (kC m 8,-1)else (bU (jM p m x) x.a m.s.count,m.s.count)
theorem Ba {p:ak} {m:PM} (h:mX m) (x:iG):mX (jM p m x):=⟨⟨h.s.vars,h.s.owner,h.s.chans,by show (m.s.gos.set _ _).length=6;rw [adI];exact h.s.gos,h.s.ch,λg hg=>by
 rcases ad1 hg with a | a
 ·exact h.s.go g a
 ·rw [a];exact Hg _ _ _⟩,h.g⟩
theorem JO {p:ak} {m:PM} (h:mX m) (x:iG):mX (jv p m x).1:=by
 unfold jv;split
 ·exact wK h 8
 exact pq (Ba h x) _ _
theorem Zf (g:iW) (x:iG):((T 59).zero.put [0] (.int 1)).put [1] (.int x.b)=bV (qW g x 0):=by
 rw [F9,gI,show (bV { go0 with status:=1}).put [1] (.int x.b)=bV { go0 with status:=1,func:=x.b}from dh (abZ rfl)];rfl
theorem WV (p:ak) (m:PM) (F:gq) (x:iG) (h:mX m) (hp:qJ p) (hF:xk p F) (hi:DN p F x) (n:x.op=62) (a4:0<=m.s.count/\m.s.count<=6):AC Tryz.prog T aH 232 [.ptr (.b 0) 1 0 [],aQ x] [mO p m] (.int (jv p m x).2) [mO p (jv p m x).1]:=by
 refine aX Tryz.func232 ?_;have hr:=hF.regs;have hs:=hi.spawn n;have a5:=hp.funcs;simp only [jc,aZ]at hs;have j:p.funcs.getD x.b.toNat jI∈p.funcs:=by rw [aae,Y0 (show x.b.toNat<p.funcs.length by omega)];exact acr _
 have a9:=(hp.fn _ j).pars;have a0:=(hp.fn _ j).regs;have a8:(qN p x=0/\x.c=0)\/0<qN p x/\0<=x.c/\x.c+qN p x<=F.regs:=by have d:=hs.2.2 _ rfl;rcases d with d | d;{exact .inl d};refine .inr ⟨d.1,d.2.1,?_⟩;have h2:=d.2.2;rw [bK (by omega) (by omega)]at h2;show x.c+(p.funcs.getD x.b.toNat jI).params<=F.regs;omega
 have u:0<=qN p x/\qN p x<=8:=by show 0<=(p.funcs.getD x.b.toNat jI).params/\(p.funcs.getD x.b.toNat jI).params<=8;omega
 have a6:=h.s.gos;have a7:=h.g;refine sg rfl (sq (sq ?_));refine wQ [(.s 3 0,1)] [(0,.ptr (.b 0) 1 0 []),(3,.rp 120 (aQ x))] [(.b 0,mO p m)] ⟨obs rfl,tt⟩ (rg [] rfl ?_);refine cd rfl (λd=>?_) (λd=>?_)
 ·have y:m.s.count=6:=eq_of_beq d;refine sq (rgs [⟨true,[.b 0],.tup [],[mO p (kC m 8)]⟩] rfl ?_ ?_);{have v:=wS p m 8 h;have f:=bQ [.b 0] p m;have i:=bQ (bs 1) p (kC m 8);exact au};refine sg rfl (rX ?_);(have o:jv p m x=(kC m 8,-1):=by rw [jv,aa2 y]);rw [o];exact aJ hT [] (ts:=[(4,.int (-1))]) (l:=[.int (-1)]) trivial cX ⟨obs rfl (hg:=q0 (ah (iH _ _ _))),tt⟩ rfl rfl rfl
 have y:¬ m.s.count=6:=λe=>absurd ((beq_iff_eq.2 e).symm.trans d) (by decide);refine sk (sq (rg [] rfl ?_));refine sq (sq (drs [] rfl ?_ ?_));{simp [-List.getD_eq_getElem?_getD,ay,under];omega};refine bk (WP.loop (α:=Nat) (λk=>aN [(0,.ptr (.b 0) 1 0 []),(3,.rp 120 (aQ x)),(5,.ptr (.s 5 0) 1 0 []),(28,.int (qN p x)),(29,.int k)] [(.b 0,mO p m),(.s 5 0,.cells ⟨59,1,λ_=>bV (qW (aC m) x k),0⟩)]) (λk=>(k:Int)<=qN p x) (λk=>8 - k) ?_ ?_);{refine ⟨0,?_,?_⟩;{exact u.1};refine eX cX ⟨obs rfl,obs rfl (hg:=q0 (ah (Zf _ _))),tt⟩};rintro k hk;refine sg rfl (sq ?_);refine cd rfl (λq=>?_) (λq=>?_);{have t:(k:Int)<qN p x:=aep q;have hw:IntKind.i64.wrap (x.c+(k:Int))=x.c+k:=bK (by omega) (by omega);refine sk (sq (bk (sq (rg [] rfl ?_))));refine drs [⟨true,[.b 0],rH m,[mO p m]⟩] rfl ?_ ?_;{have v:=sN p m h.g;have f:=bQ [.b 0] p m;have i:=bQ (bs 1) p m;(have r:0<=IntKind.i64.wrap (x.c+(k:Int))/\IntKind.i64.wrap (x.c+(k:Int))<8:=by rw [hw];omega);simp only [ay,under,CG.pure];(repeat' with_reducible refine And.intro ?_ ?_);(all_goals (try with_reducible intros));all_goals (first | exact trivial | assumption | omega | exact v | exact f | exact i | exact r | exact r.1 | exact r.2 | (simp;done) | grind)};refine rg [] rfl ⟨k+1,?_,?_,?_⟩;{omega};{refine eX cX ⟨obs rfl (hg:=q0 (ah (iH _ _ _))),obs rfl (hg:=q0 (ah ((ac8 (λz:Int=>(bV (qW (aC m) x k)).put [4,(k:Int).toNat] (.int (bn (aC m) z))) hw).trans ((kU _ (by show (k:Int).toNat<(yR _ _ _).length;rw [Hg];omega)).trans (by simp only [adu,qW];rw [OE (by omega)]))))),tt⟩};(try simp only []);first | omega | grind};have t:¬ (k:Int)<qN p x:=aeO q;(have ek:k=(qN p x).toNat:=by omega);subst ek;refine xt (sq (rg [] rfl ?_));refine sq (drs [] rfl ?_ ?_);{simp [-List.getD_eq_getElem?_getD,ay,under];omega};refine sq (wE [(0,.ptr (.b 0) 1 0 []),(3,.rp 120 (aQ x)),(7,.int m.s.count)] [(.b 0,mO p { m with s:={ m.s with gos:=m.s.gos.set m.s.count.toNat (qW (aC m) x (qN p x).toNat) } })] ⟨obs rfl (hg:=q0 (ah (AX (ng (by omega) (Td _ _))))),tt⟩ ?_);refine rg [] rfl (sq ?_);have w:IntKind.i64.wrap (m.s.count+1)=m.s.count+1:=bK (by omega) (by omega);refine wE [(0,.ptr (.b 0) 1 0 []),(3,.rp 120 (aQ x)),(7,.int m.s.count)] [(.b 0,mO p { m with s:={ m.s with gos:=m.s.gos.set m.s.count.toNat (qW (aC m) x (qN p x).toNat),count:=m.s.count+1} })] ⟨obs rfl (hg:=q0 (ah ((ac8 (λz=>AV.put (jg p { m with s:={ m.s with gos:=m.s.gos.set m.s.count.toNat (qW (aC m) x (qN p x).toNat) } }) [1,4] (.int z)) w).trans (AX (xM _ _))))),tt⟩ (rg [] rfl ?_);refine sq (wE [(0,.ptr (.b 0) 1 0 []),(3,.rp 120 (aQ x)),(7,.int m.s.count)] [(.b 0,mO p (jM p m x))] ⟨obs rfl (hg:=q0 (ah (kW _ _ _))),tt⟩ ?_);refine drs [⟨true,[.b 0],.tup [],[mO p (bU (jM p m x) x.a m.s.count)]⟩] rfl ?_ ?_;{have v:=oU p (jM p m x) x.a m.s.count (Ba h x) (by omega);have f:=bQ [.b 0] p (jM p m x);have i:=bQ (bs 1) p (bU (jM p m x) x.a m.s.count);exact au};refine sg rfl (rX ?_);(have o:jv p m x=(bU (jM p m x) x.a m.s.count,m.s.count):=by rw [jv,xw y]);rw [o];exact aJ hT [] (ts:=[(4,.int m.s.count)]) (l:=[.int m.s.count]) trivial cX ⟨obs rfl (hg:=q0 (ah (iH _ _ _))),tt⟩ rfl rfl rfl
theorem JX (p:ak) (m:PM) (c x:Int) (h:mX m) (hc:aZ c p.chans.length) (hp:qJ p) (a:jV p m.s c=true) (hlen:0<=(bW m.s c).len):AC Tryz.prog T aH 225 [.ptr (.b 0) 1 0 [],.int c,.int x] (List.map (fK (sig [.b 0] 0)) [mO p m]) (.tup []) [mO p (iT p m c x)]:=by rw [mY];exact Yg p m c x h hc hp a hlen
theorem JY (p:ak) (m:PM) (c:Int) (h:mX m) (hc:0<=c/\c<4) (hlen:(bW m.s c).len<=4):AC Tryz.prog T aH 226 [.ptr (.b 0) 1 0 [],.int c] (List.map (fK (sig [.b 0] 0)) [mO p m]) (.bool (dH m c).2) [mO p (dH m c).1]:=by rw [mY];exact Yh p m c h hc hlen
def jl (p:ak) (m:PM) (q:rZ) (alt:Int):PM×Int :=
 if alt=q.cases.length then (m,q.els)else
 (if (aA q alt.toNat).send=true then iT p m (aA q alt.toNat).chan (bn (aC m) (aA q alt.toNat).reg)else bU (dH m (aA q alt.toNat).chan).1 (aA q alt.toNat).reg (dH m (aA q alt.toNat).chan).1.val,(aA q alt.toNat).to)
theorem QO {p:ak} {m:PM} (h:mX m) (q:rZ) (alt:Int):mX (jl p m q alt).1:=by
 unfold jl;split
 ·exact h
 show mX (if _ then _ else _);split;{exact Hu h _ _};exact pq (um h _) _ _
def abb (s:cZ):Prop := ∀ c:Int,0<=c/\c<4->0<=(bW s c).len/\(bW s c).len<=4
theorem V7 (p:ak) (m:PM) (F:gq) (q:rZ) (alt:Int) (h:mX m) (hp:qJ p) (hF:xk p F) (z:aaY p F q) (ha:0<=alt/\alt<=q.cases.length) (hl:abb m.s) (hs:alt<q.cases.length->(aA q alt.toNat).send=true->jV p m.s (aA q alt.toNat).chan=true):AC Tryz.prog T aH 231 [.ptr (.b 0) 1 0 [],gB q,.int alt] [mO p m] (.int (jl p m q alt).2) [mO p (jl p m q alt).1]:=by
 refine aX Tryz.func231 ?_;have x:=hp.chans;have hr:=hF.regs;refine sg rfl (sq (sq ?_));refine wQ [(.s 4 0,1)] [(0,.ptr (.b 0) 1 0 []),(2,.int alt),(4,.rp 103 (gB q))] [(.b 0,mO p m)] ⟨obs rfl,tt⟩ (rg [] rfl ?_);refine cd rfl (λt=>?_) (λt=>?_)
 ·have r:alt=q.cases.length:=eq_of_beq t;refine sg rfl (rX ?_);(have i:jl p m q alt=(m,q.els):=by rw [jl,aa2 r]);rw [i];exact aJ hT [] (ts:=[(6,.int q.els)]) (l:=[.int q.els]) trivial cX ⟨obs rfl,tt⟩ rfl rfl rfl
 have r:¬ alt=q.cases.length:=λe=>absurd ((beq_iff_eq.2 e).symm.trans t) (by decide);(have v:alt.toNat<q.cases.length:=by omega);have d:=z.case (aA q alt.toNat) (by unfold aA;rw [aae,Y0 v];exact acr _);have j:=d.chan;(have a:0<=(aA q alt.toNat).chan/\(aA q alt.toNat).chan<4:=by unfold aZ at j;omega);refine sk (sq (rgs [] rfl ?_ ?_));{simp [-List.getD_eq_getElem?_getD,ay,under];omega};refine sq (sq ?_);refine wQ [(.s 7 0,1)] [(0,.ptr (.b 0) 1 0 []),(7,.rp 215 (pz (aA q alt.toNat)))] [(.b 0,mO p m)] ⟨obs rfl,tt⟩ (rg [] rfl ?_);refine cd rfl (λu=>?_) (λu=>?_);{have c:(aA q alt.toNat).send=true:=u;have f:=d.reg (.inl c);unfold jc at f;refine drs [⟨true,[.b 0],rH m,[mO p m]⟩,⟨true,[.b 0],.tup [],[mO p (iT p m (aA q alt.toNat).chan (bn (aC m) (aA q alt.toNat).reg))]⟩] rfl ?_ ?_;{have o:=sN p m h.g;have k:=bQ [.b 0] p m;have n:=bQ (bs 1) p m;have a0:=JX p m (aA q alt.toNat).chan (bn (aC m) (aA q alt.toNat).reg) h j hp (hs (by omega) c) (hl _ a).1;have y:=bQ (bs 1) p (iT p m (aA q alt.toNat).chan (bn (aC m) (aA q alt.toNat).reg));(have hx:∀ w:Id->Id,Ob.cells ⟨263,1,λ_=>ren w (jg p m),0⟩=mO p m:=λw=>by rw [iH]);simp only [fK,hx];exact au};refine sg rfl (rX ?_);(have i:jl p m q alt=(iT p m (aA q alt.toNat).chan (bn (aC m) (aA q alt.toNat).reg),(aA q alt.toNat).to):=by rw [jl,xw r,aa2 c]);rw [i];exact aJ hT [] (ts:=[(6,.int (aA q alt.toNat).to)]) (l:=[.int (aA q alt.toNat).to]) trivial cX ⟨obs rfl (hg:=q0 (ah (iH _ _ _))),tt⟩ rfl rfl rfl};have c:¬ (aA q alt.toNat).send=true:=λe=>absurd (u.symm.trans e) (by decide);(have f:(aA q alt.toNat).reg<8:=by by_cases e:(aA q alt.toNat).reg = -1;{omega};have:=d.reg (.inr e);unfold jc at this;omega);refine sq (rgs [⟨true,[.b 0],.bool (dH m (aA q alt.toNat).chan).2,[mO p (dH m (aA q alt.toNat).chan).1]⟩] rfl ?_ ?_);{have o:=JY p m (aA q alt.toNat).chan h a (hl _ a).2;have k:=bQ [.b 0] p m;have n:=bQ (bs 1) p (dH m (aA q alt.toNat).chan).1;exact au};refine wE [(0,.ptr (.b 0) 1 0 []),(7,.rp 215 (pz (aA q alt.toNat)))] [(.b 0,mO p (dH m (aA q alt.toNat).chan).1)] ⟨obs rfl (hg:=q0 (ah (iH _ _ _))),tt⟩ (drs [⟨true,[.b 0],.tup [],[mO p (bU (dH m (aA q alt.toNat).chan).1 (aA q alt.toNat).reg (dH m (aA q alt.toNat).chan).1.val)]⟩] rfl ?_ ?_);{have o:=oU p (dH m (aA q alt.toNat).chan).1 (aA q alt.toNat).reg (dH m (aA q alt.toNat).chan).1.val (um h _) f;have k:=bQ [.b 0] p (dH m (aA q alt.toNat).chan).1;have n:=bQ (bs 1) p (bU (dH m (aA q alt.toNat).chan).1 (aA q alt.toNat).reg (dH m (aA q alt.toNat).chan).1.val);exact au};refine sg rfl (rX ?_);(have i:jl p m q alt=(bU (dH m (aA q alt.toNat).chan).1 (aA q alt.toNat).reg (dH m (aA q alt.toNat).chan).1.val,(aA q alt.toNat).to):=by rw [jl,xw r,xw c]);rw [i];exact aJ hT [] (ts:=[(6,.int (aA q alt.toNat).to)]) (l:=[.int (aA q alt.toNat).to]) trivial cX ⟨obs rfl (hg:=q0 (ah (iH _ _ _))),tt⟩ rfl rfl rfl
theorem JA {m:PM} {x:iG} (h:(bG m x).2=false):(bG m x).1=m/\(x.op≠50/\x.op≠51/\x.op≠52/\x.op≠53/\x.op≠54/\x.op≠55/\x.op≠56/\x.op≠57):=by
 unfold bG at h ⊢;by_cases a:x.op=50
 ·rw [aa2 a]at h;cases h
 rw [xw a]at h ⊢;by_cases b:x.op=51
 ·rw [aa2 b]at h;cases h
 rw [xw b]at h ⊢;by_cases c:x.op=52
 ·rw [aa2 c]at h;cases h
 rw [xw c]at h ⊢;by_cases d:x.op=53
 ·rw [aa2 d]at h;cases h
 rw [xw d]at h ⊢;by_cases e:x.op=54
 ·rw [aa2 e]at h;cases h
 rw [xw e]at h ⊢;by_cases f:x.op=55
 ·rw [aa2 f]at h;cases h
 rw [xw f]at h ⊢;by_cases g:x.op=56
 ·rw [aa2 g]at h;split at h <;> cases h
 rw [xw g]at h ⊢;by_cases i:x.op=57
 ·rw [aa2 i]at h;cases h
 rw [xw i];exact ⟨rfl,a,b,c,d,e,f,g,i⟩
def pX (p:ak) (m:PM) (x:iG) (alt:Int):PM×Int×Int :=
 if (bG m x).2=true then ((bG m x).1,(aC m).pc+1,-1)else
 if x.op=58 then (iT p m x.a (bn (aC m) x.b),(aC m).pc+1,-1)else
 if x.op=59 then (bU (bU (dH m x.b).1 x.a (dH m x.b).1.val) x.c (iC (dH m x.b).2),(aC m).pc+1,-1)else
 if x.op=66 then (qK m x.a,(aC m).pc+1,-1)else if x.op=60 then (oq m x.a,(aC m).pc+1,-1)else
 if x.op=61 then ((jl p m (aO (bP p (aC m)) x.a.toNat) alt).1,(jl p m (aO (bP p (aC m)) x.a.toNat) alt).2,-1)else
 if x.op=62 then ((jv p m x).1,(aC m).pc+1,(jv p m x).2)else
 if x.op=63 then (if jL m.s m.g (bn (aC m) x.a)=true then dK m (bn (aC m) x.a)else kC (dK m (bn (aC m) x.a)) 7,(aC m).pc+1,-1)else
 if x.op=65 then (dK m (bn (aC m) x.a),(aC m).pc+1,-1)else (m,(aC m).pc+1,-1)
theorem uH {p:ak} {s:cZ} {q:rZ} {x:Int}:∀ {k:Nat},x∈fU p s q k ↔ ∃ j:Nat,j<k/\x=j/\wZ p s (aA q j)=true
 | 0=>by simp [fU]
 | k+1=>by rw [fU,kL];constructor;{intro h;split at h;{rename_i hb;rcases List.mem_append.1 h with h | h;{obtain ⟨j,c,a,b⟩:=uH.1 h;exact ⟨j,by omega,a,b⟩};exact ⟨k,by omega,by simpa using h,hb⟩};obtain ⟨j,c,a,b⟩:=uH.1 h;exact ⟨j,by omega,a,b⟩};rintro ⟨j,c,a,b⟩;by_cases e:j=k;{subst e;rw [aa2 b];simp [a]};have:x∈fU p s q k:=(uH (k:=k)).2 ⟨j,by omega,a,b⟩;split;{exact aec _ this};exact this
theorem Ac {p:ak} {s:cZ} {g alt:Int} (a:alt∈iR p s g) (h:(aU p s g).op≠61):jd p s g=true/\alt=0:=by
 rw [iR,aa2 h]at a;split at a
 ·rename_i b;exact ⟨b,by simpa using a⟩
 cases a
theorem DJ {p:ak} {s:cZ} {g alt:Int} (b:alt∈iR p s g) (h:(aU p s g).op=61):(0<=alt/\alt<=(bJ p s g).cases.length)/\(alt<(bJ p s g).cases.length->wZ p s (aA (bJ p s g) alt.toNat)=true):=by
 rw [iR,xw (by simp [h]),kL]at b;have key:alt∈fU p s (bJ p s g) (bJ p s g).cases.length->(0<=alt/\alt<=(bJ p s g).cases.length)/\(alt<(bJ p s g).cases.length->wZ p s (aA (bJ p s g) alt.toNat)=true):=λhm=>by obtain ⟨j,a,c,d⟩:=uH.1 hm;exact ⟨by omega,λ_=>by rw [c,adu];exact d⟩
 split at b
 ·rcases List.mem_append.1 b with a | a;{exact key a};(have c:alt=(bJ p s g).cases.length:=by simpa using a);exact ⟨by omega,λd=>by omega⟩
 exact key b
theorem Tv {p:ak} {s:cZ} (f:dF p s):abb s:=λc hc=>by
 have hp:=kJ f.1;have b:=f.2.2.2.2.2.1 c.toNat (by omega)
 by_cases d:c.toNat<p.chans.length
 ·have a:=(b.1 d).1.1;have g:=hp.caps (vT p c.toNat) (by simp [vT,d])
  exact ⟨a.1,Int.le_trans a.2 g.2⟩
 ·have a:=b.2 (by omega);have e:bW s c=BG:=a
  rw [e];decide
def jK (s:cZ) (g n:Int):PM:=⟨s,g,n,0,false⟩
theorem acn (p:ak) (s:cZ) (g n alt:Int) (h:dZ p s g) (ha:alt∈iR p s g):AC Tryz.prog T aH 161 [.ptr (.b 0) 1 0 [],aQ (aU p s g),.int alt] [mO p (jK s g n)] (.tup [.int (pX p (jK s g n) (aU p s g) alt).2.1,.int (pX p (jK s g n) (aU p s g) alt).2.2]) [mO p (pX p (jK s g n) (aU p s g) alt).1]:=by
 refine aX Tryz.func161 ?_;have hp:=h.prog;have hF:=h.fn;have w:=h.at;have hr:=hF.regs;have d1:=hp.chans;have hi:(aU p s g).op≠66->DN p (bP p (goI s g)) (aU p s g):=λe=>by rw [w.ins e];exact h.ins
 have d:mX (jK s g n):=⟨h.ok,h.pos⟩;have o:=Tv h.valid;have c5:=h.fit.2.2.1;have d2:=hF.code;unfold aZ at c5;have hw:IntKind.i64.wrap ((goI s g).pc+1)=(goI s g).pc+1:=bK (by omega) (by omega);obtain ⟨m,hm⟩:∃ m,jK s g n=m:=⟨_,rfl⟩;have t:m.s=s:=by rw [<- hm];rfl
 have d6:m.g=g:=by rw [<- hm];rfl
 have a0:aC m=goI s g:=by rw [<- hm];rfl
 obtain ⟨x,hx⟩:∃ x,aU p s g=x:=⟨_,rfl⟩;rw [hm]at d ⊢;rw [hx]at hi ⊢;rw [<- a0]at hw;have h8:(aC m).regs.length=8:=gZ d.s _;refine sg rfl (sq ?_);refine wQ [(.s 4 0,1)] [(0,.ptr (.b 0) 1 0 []),(2,.int alt),(4,.rp 120 (aQ x))] [(.b 0,mO p m)] ⟨obs rfl,tt⟩ (rgs [⟨true,[.b 0],rH m,[mO p m]⟩] rfl ?_ ?_)
 ·have u:=sN p m d.g;have i:=bQ [.b 0] p m;have j:=bQ (bs 1) p m;exact au
 refine sq (sq ?_);refine wT [(0,.ptr (.b 0) 1 0 []),(2,.int alt),(4,.rp 120 (aQ x)),(6,.int ((aC m).pc+1)),(7,.int (-1))] [(.b 0,mO p m)] ⟨cq,cq,cq,⟨rfl,_,rfl,ah (ac8 AV.int hw)⟩,cq,tt⟩ ⟨obs rfl (hg:=q0 (ah (iH _ _ _))),tt⟩ (rgs [⟨true,[.b 0],.bool (bG m x).2,[mO p (bG m x).1]⟩] rfl ?_ ?_)
 ·(have u:AC Tryz.prog T aH 224 [.ptr (.b 0) 1 0 [],aQ x] (List.map (fK (sig [.b 0] 0)) [mO p m]) (.bool (bG m x).2) [mO p (bG m x).1]:=by rw [mY];exact UA p m _ x d hp hF hi);have i:=bQ [.b 0] p m;have j:=bQ (bs 1) p (bG m x).1;have hz:ren (sig [.b 0] 0) (aQ x)=aQ x:=bH (λq=>by match q with | 0 | 1 | 2 | 3 | 4 | q+5=>rfl);rw [<- hz]at u;exact au
 refine cd rfl (λh2=>?_) (λh2=>?_)
 ·have f:(bG m x).2=true:=h2;refine sg rfl (rX ?_);(have k:pX p m x alt=((bG m x).1,(aC m).pc+1,-1):=by rw [pX,aa2 f]);rw [k];exact aJ hT [] (ts:=[(6,.int ((aC m).pc+1)),(7,.int (-1))]) (l:=[.int ((aC m).pc+1),.int (-1)]) trivial cX ⟨obs rfl (hg:=q0 (ah (iH _ _ _))),tt⟩ rfl rfl rfl
 have f:(bG m x).2=false:=h2;obtain ⟨c8,d7,d8,d9,e0,e1,e2,e3,e4⟩:=JA f;(have c6:¬ (bG m x).2=true:=by rw [f];decide);refine sk (sq ?_);refine wE [(0,.ptr (.b 0) 1 0 []),(2,.int alt),(4,.rp 120 (aQ x)),(6,.int ((aC m).pc+1)),(7,.int (-1))] [(.b 0,mO p m)] ⟨obs rfl (hg:=q0 (ah ((iH _ _ _).trans (by rw [c8])))),tt⟩ (rgs [⟨true,[.b 0],rH m,[mO p m]⟩] rfl ?_ ?_);{have u:=sN p m d.g;have i:=bQ [.b 0] p m;have j:=bQ (bs 1) p m;exact au};refine sq (sq ?_);refine wQ [(.s 8 0,1)] [(0,.ptr (.b 0) 1 0 []),(2,.int alt),(4,.rp 120 (aQ x)),(6,.int ((aC m).pc+1)),(7,.int (-1)),(8,.rp 52 (lC 52 8 .i64 (aC m).regs))] [(.b 0,mO p m)] ⟨obs rfl (hg:=q0 (ah (iH _ _ _))),tt⟩ (rg [] rfl ?_);refine bk (sq (rg [] rfl ?_));refine cd rfl (λh6=>?_) (λh6=>?_);{(have e:x.op=58:=by simpa using h6);have hb:=w.send;rw [hx]at hb;have hb:=hb (.inl e);(have c7:jV p m.s x.a=true:=by have h1:=(Ac ha (by rw [hx];omega)).1;unfold jd at h1;rw [hx]at h1;simp only [e]at h1;rw [t];exact h1);have r:=((hi (by omega)).send e).2;have v:=hb;unfold jc at r;unfold aZ at v;refine drs [⟨true,[.b 0],.tup [],[mO p (iT p m x.a (bn (aC m) x.b))]⟩] rfl ?_ ?_;{have u:=JX p m x.a (bn (aC m) x.b) d hb hp c7 (by rw [t];exact (o x.a (by omega)).1);have i:=bQ [.b 0] p m;have j:=bQ (bs 1) p (iT p m x.a (bn (aC m) x.b));exact au};refine sg rfl (rX ?_);(have k:pX p m x alt=(iT p m x.a (bn (aC m) x.b),(aC m).pc+1,-1):=by simp only [pX,f,e];rfl);rw [k];exact aJ hT [] (ts:=[(6,.int ((aC m).pc+1)),(7,.int (-1))]) (l:=[.int ((aC m).pc+1),.int (-1)]) trivial cX ⟨obs rfl (hg:=q0 (ah (iH _ _ _))),tt⟩ rfl rfl rfl};(have b6:x.op≠58:=by simpa using h6);refine sg rfl (cd rfl (λh8=>?_) (λh8=>?_));{(have e:x.op=59:=by simpa using h8);have r:=(hi (by omega)).recv e;simp only [jc,aZ]at r;refine sq (rgs [⟨true,[.b 0],.bool (dH m x.b).2,[mO p (dH m x.b).1]⟩] rfl ?_ ?_);{have u:=JY p m x.b d (by omega) (by rw [t];exact (o x.b (by omega)).2);have i:=bQ [.b 0] p m;have j:=bQ (bs 1) p (dH m x.b).1;exact au};refine sq (wE [(0,.ptr (.b 0) 1 0 []),(4,.rp 120 (aQ x)),(6,.int ((aC m).pc+1)),(7,.int (-1)),(9,.bool (dH m x.b).2)] [(.b 0,mO p (dH m x.b).1)] ⟨obs rfl (hg:=q0 (ah (iH _ _ _))),tt⟩ ?_);refine drs [⟨true,[.b 0],.tup [],[mO p (bU (dH m x.b).1 x.a (dH m x.b).1.val)]⟩] rfl ?_ ?_;{have u:=oU p (dH m x.b).1 x.a (dH m x.b).1.val (um d _) (by omega);have i:=bQ [.b 0] p (dH m x.b).1;have j:=bQ (bs 1) p (bU (dH m x.b).1 x.a (dH m x.b).1.val);exact au};refine wE [(0,.ptr (.b 0) 1 0 []),(4,.rp 120 (aQ x)),(6,.int ((aC m).pc+1)),(7,.int (-1)),(9,.bool (dH m x.b).2)] [(.b 0,mO p (bU (dH m x.b).1 x.a (dH m x.b).1.val))] ⟨obs rfl (hg:=q0 (ah (iH _ _ _))),tt⟩ (drs [CG.pure (.int (iC (dH m x.b).2)),⟨true,[.b 0],.tup [],[mO p (bU (bU (dH m x.b).1 x.a (dH m x.b).1.val) x.c (iC (dH m x.b).2))]⟩] rfl ?_ ?_);{have e5:=En (dH m x.b).2;have u:=oU p (bU (dH m x.b).1 x.a (dH m x.b).1.val) x.c (iC (dH m x.b).2) (pq (um d _) _ _) (by omega);have i:=bQ [.b 0] p (bU (dH m x.b).1 x.a (dH m x.b).1.val);have j:=bQ (bs 1) p (bU (bU (dH m x.b).1 x.a (dH m x.b).1.val) x.c (iC (dH m x.b).2));exact au};refine sg rfl (rX ?_);(have k:pX p m x alt=(bU (bU (dH m x.b).1 x.a (dH m x.b).1.val) x.c (iC (dH m x.b).2),(aC m).pc+1,-1):=by simp only [pX,f,e];rfl);rw [k];exact aJ hT [] (ts:=[(6,.int ((aC m).pc+1)),(7,.int (-1))]) (l:=[.int ((aC m).pc+1),.int (-1)]) trivial cX ⟨obs rfl (hg:=q0 (ah (iH _ _ _))),tt⟩ rfl rfl rfl};(have b7:x.op≠59:=by simpa using h8);refine sg rfl (cd rfl (λa2=>?_) (λa2=>?_));{(have e:x.op=66:=by simpa using a2);have hb:=w.send;rw [hx]at hb;have v:=hb (.inr (.inr e));unfold aZ at v;refine rgs [⟨true,[.b 0],.tup [],[mO p (qK m x.a)]⟩] rfl ?_ ?_;{(have u:AC Tryz.prog T aH 229 [.ptr (.b 0) 1 0 [],.int x.a] (List.map (fK (sig [.b 0] 0)) [mO p m]) (.tup []) [mO p (qK m x.a)]:=by rw [mY];exact Vu p m x.a d (by omega));have i:=bQ [.b 0] p m;have j:=bQ (bs 1) p (qK m x.a);exact au};refine sg rfl (rX ?_);(have k:pX p m x alt=(qK m x.a,(aC m).pc+1,-1):=by simp only [pX,f,e];rfl);rw [k];exact aJ hT [] (ts:=[(6,.int ((aC m).pc+1)),(7,.int (-1))]) (l:=[.int ((aC m).pc+1),.int (-1)]) trivial cX ⟨obs rfl (hg:=q0 (ah (iH _ _ _))),tt⟩ rfl rfl rfl};(have c3:x.op≠66:=by simpa using a2);refine sg rfl (cd rfl (λa3=>?_) (λa3=>?_));{(have e:x.op=60:=by simpa using a3);have hb:=w.send;rw [hx]at hb;have v:=hb (.inr (.inl e));unfold aZ at v;refine rgs [⟨true,[.b 0],.tup [],[mO p (oq m x.a)]⟩] rfl ?_ ?_;{(have u:AC Tryz.prog T aH 230 [.ptr (.b 0) 1 0 [],.int x.a] (List.map (fK (sig [.b 0] 0)) [mO p m]) (.tup []) [mO p (oq m x.a)]:=by rw [mY];exact Yd p m x.a d (by omega));have i:=bQ [.b 0] p m;have j:=bQ (bs 1) p (oq m x.a);exact au};refine sg rfl (rX ?_);(have k:pX p m x alt=(oq m x.a,(aC m).pc+1,-1):=by simp only [pX,f,e];rfl);rw [k];exact aJ hT [] (ts:=[(6,.int ((aC m).pc+1)),(7,.int (-1))]) (l:=[.int ((aC m).pc+1),.int (-1)]) trivial cX ⟨obs rfl (hg:=q0 (ah (iH _ _ _))),tt⟩ rfl rfl rfl};(have b8:x.op≠60:=by simpa using a3);refine sg rfl (cd rfl (λa4=>?_) (λa4=>?_));{(have e:x.op=61:=by simpa using a4);have a1:=h.sel (by rw [hx];exact e);have y:=DJ ha (by rw [hx];exact e);simp only [bJ,hx]at a1 y;rw [<- a0]at a1 y;have b3:=a1.1;have a9:=h.fit.2.1;rw [<- a0]at a9;unfold aZ at b3 a9;refine drs [⟨true,[.b 0],rH m,[]⟩,⟨true,[.b 0],.int (jl p m (aO (bP p (aC m)) x.a.toNat) alt).2,[mO p (jl p m (aO (bP p (aC m)) x.a.toNat) alt).1]⟩] rfl ?_ ?_;{(have e6:AC Tryz.prog T aH 162 [.ptr (.b 0) 1 0 []] (List.map (fK (sig [.b 0] 0)) [mO p m]) (rH m) (List.map (fK (sig [.b 0] 0)) [mO p m]):=by rw [mY];exact QJ p m d.g);(have d4:List.map (fK (Ur [.b 0])) (List.map (fK (sig [.b 0] 0)) [mO p m])=[mO p m]:=by rw [mY,mY]);have i:=bQ [.b 0] p m;(have j:jm (bs 1) (List.map (fK (sig [.b 0] 0)) [mO p m]):=by rw [mY];exact bQ _ p m);(have e7:AC Tryz.prog T aH 231 [.ptr (.b 0) 1 0 [],ren (sig [.b 0] 0) (gB (aO (bP p (aC m)) x.a.toNat)),.int alt] (List.map (fK (sig [.b 0] 0)) [mO p m]) (.int (jl p m (aO (bP p (aC m)) x.a.toNat) alt).2) [mO p (jl p m (aO (bP p (aC m)) x.a.toNat) alt).1]:=by have hz:ren (sig [.b 0] 0) (gB (aO (bP p (aC m)) x.a.toNat))=gB (aO (bP p (aC m)) x.a.toNat):=bH (λq=>by match q with | 0 | 1 | q+2=>rfl);rw [mY,hz];refine V7 p m (bP p (aC m)) _ alt d hp (by rw [a0];exact hF) a1.2 y.1 (by rw [t];exact o) (λh1 h2=>?_);have h3:=y.2 h1;rw [wZ,h2]at h3;rw [t];simpa using h3);have d5:=bQ (bs 1) p (jl p m (aO (bP p (aC m)) x.a.toNat) alt).1;simp only [bP,aC,goI]at b3 a9;exact au};refine sg rfl (rX ?_);(have k:pX p m x alt=((jl p m (aO (bP p (aC m)) x.a.toNat) alt).1,(jl p m (aO (bP p (aC m)) x.a.toNat) alt).2,-1):=by simp only [pX,f,e];rfl);rw [k];exact aJ hT [] (ts:=[(6,.int ((jl p m (aO (bP p (aC m)) x.a.toNat) alt).2)),(7,.int (-1))]) (l:=[.int ((jl p m (aO (bP p (aC m)) x.a.toNat) alt).2),.int (-1)]) trivial cX ⟨obs rfl (hg:=q0 (ah (iH _ _ _))),tt⟩ rfl rfl rfl};(have b9:x.op≠61:=by simpa using a4);refine sg rfl (cd rfl (λa5=>?_) (λa5=>?_));{(have e:x.op=62:=by simpa using a5);refine rgs [⟨true,[.b 0],.int (jv p m x).2,[mO p (jv p m x).1]⟩] rfl ?_ ?_;{have d3:=h.valid.2.1;(have u:AC Tryz.prog T aH 232 [.ptr (.b 0) 1 0 [],aQ x] (List.map (fK (sig [.b 0] 0)) [mO p m]) (.int (jv p m x).2) [mO p (jv p m x).1]:=by rw [mY];exact WV p m _ x d hp hF (hi (by omega)) e (by rw [t];omega));have i:=bQ [.b 0] p m;have j:=bQ (bs 1) p (jv p m x).1;have hz:ren (sig [.b 0] 0) (aQ x)=aQ x:=bH (λq=>by match q with | 0 | 1 | 2 | 3 | 4 | q+5=>rfl);rw [<- hz]at u;exact au};refine sg rfl (rX ?_);(have k:pX p m x alt=((jv p m x).1,(aC m).pc+1,(jv p m x).2):=by simp only [pX,f,e];rfl);rw [k];exact aJ hT [] (ts:=[(6,.int ((aC m).pc+1)),(7,.int ((jv p m x).2))]) (l:=[.int ((aC m).pc+1),.int ((jv p m x).2)]) trivial cX ⟨obs rfl (hg:=q0 (ah (iH _ _ _))),tt⟩ rfl rfl rfl};(have c0:x.op≠62:=by simpa using a5);refine sg rfl (cd rfl (λa6=>?_) (λa6=>?_));{(have e:x.op=63:=by simpa using a6);have r:=(hi (by omega)).const (by omega);unfold jc at r;refine sq (rgs [] rfl ?_ ?_);{simp [-List.getD_eq_getElem?_getD,ay,under];omega};refine sq (wE [(0,.ptr (.b 0) 1 0 []),(6,.int ((aC m).pc+1)),(7,.int (-1))] [(.b 0,mO p (dK m (bn (aC m) x.a)))] ⟨obs rfl (hg:=q0 (ah (kW _ _ _))),tt⟩ ?_);refine drs [CG.pure (.bool (jL m.s m.g (bn (aC m) x.a)))] rfl ?_ ?_;{have u:=Gn m.s m.g (bn (aC m) x.a);exact au};refine cd rfl (λa7=>?_) (λa7=>?_);{(have b0:¬ jL m.s m.g (bn (aC m) x.a)=true:=by simpa using a7);refine rgs [⟨true,[.b 0],.tup [],[mO p (kC (dK m (bn (aC m) x.a)) 7)]⟩] rfl ?_ ?_;{have u:=wS p (dK m (bn (aC m) x.a)) 7 (gQ d _);have i:=bQ [.b 0] p (dK m (bn (aC m) x.a));have j:=bQ (bs 1) p (kC (dK m (bn (aC m) x.a)) 7);exact au};refine sg rfl (rX ?_);(have k:pX p m x alt=(kC (dK m (bn (aC m) x.a)) 7,(aC m).pc+1,-1):=by simp only [pX,f,e];exact ac8 (λz=>(z,_,_)) (xw b0));rw [k];exact aJ hT [] (ts:=[(6,.int ((aC m).pc+1)),(7,.int (-1))]) (l:=[.int ((aC m).pc+1),.int (-1)]) trivial cX ⟨obs rfl (hg:=q0 (ah (iH _ _ _))),tt⟩ rfl rfl rfl};(have b0:jL m.s m.g (bn (aC m) x.a)=true:=by simpa using a7);refine sk (sq (rg [] rfl ?_));refine rX ?_;(have k:pX p m x alt=(dK m (bn (aC m) x.a),(aC m).pc+1,-1):=by simp only [pX,f,e];exact ac8 (λz=>(z,_,_)) (aa2 b0));rw [k];exact aJ hT [] (ts:=[(6,.int ((aC m).pc+1)),(7,.int (-1))]) (l:=[.int ((aC m).pc+1),.int (-1)]) trivial cX ⟨obs rfl (hg:=q0 (ah (rfl))),tt⟩ rfl rfl rfl};(have c1:x.op≠63:=by simpa using a6);refine sg rfl (cd rfl (λa8=>?_) (λa8=>?_));{(have e:x.op=65:=by simpa using a8);have r:=(hi (by omega)).const (by omega);unfold jc at r;refine rgs [] rfl ?_ ?_;{simp [-List.getD_eq_getElem?_getD,ay,under];omega};refine sg rfl (rX ?_);(have k:pX p m x alt=(dK m (bn (aC m) x.a),(aC m).pc+1,-1):=by simp only [pX,f,e];rfl);rw [k];exact aJ hT [] (ts:=[(6,.int ((aC m).pc+1)),(7,.int (-1))]) (l:=[.int ((aC m).pc+1),.int (-1)]) trivial cX ⟨obs rfl (hg:=q0 (ah (kW _ _ _))),tt⟩ rfl rfl rfl};(have c2:x.op≠65:=by simpa using a8);refine sk (sq (rg [] rfl ?_));refine rX ?_;(have k:pX p m x alt=(m,(aC m).pc+1,-1):=by rw [pX,xw c6,xw b6,xw b7,xw c3,xw b8,xw b9,xw c0,xw c1,xw c2]);rw [k];exact aJ hT [] (ts:=[(6,.int ((aC m).pc+1)),(7,.int (-1))]) (l:=[.int ((aC m).pc+1),.int (-1)]) trivial cX ⟨obs rfl (hg:=q0 (ah (rfl))),tt⟩ rfl rfl rfl
def Rh (L:List Int) (x:Int):Int:=if x∈L then (L.findIdx (· == x):Nat)else -1
theorem aaE {L:List Int} {x:Int} {i:Nat} (hi:i<L.length) (h:L.getD i 0=x) (hn:∀ j,j<i->L.getD j 0≠x):(i:Int)=Rh L x:=by
 have hm:x∈L:=by rw [<- h];simp [aae,hi]
 rw [Rh,aa2 hm];congr 1;symm;rw [List.findIdx_eq hi];refine ⟨by simpa [aae,hi]using h,λj b=>?_⟩;have a:j<L.length:=by omega
 have:=hn j b;simpa [aae,a]using this
theorem aaD {L:List Int} {x:Int} (hn:∀ j,j<L.length->L.getD j 0≠x) : -1=Rh L x:=by
 rw [Rh,xw];intro hm;obtain ⟨j,a,e⟩:=aeA hm;exact hn j a (by simpa [aae,a]using e)
theorem Yo (f:Bool) (L:List Int) (x:Int):AC Tryz.prog T aH 218 [ints f L,.int x] [] (.int (Rh L x)) []:=by
 refine aX Tryz.func218 ?_;refine WP.rowlen 0 rfl (λd=>?_);refine sg rfl (sq (sq (rg [] rfl ?_)));refine bk (WP.loop (α:=Nat) (λi=>aN [(0,ints f L),(1,.int x),(7,.int L.length),(8,.int i)] []) (λi=>i<=L.length /\ ∀ j,j<i->L.getD j 0≠x) (λi=>L.length - i) ?_ ?_)
 ·refine ⟨0,?_,?_⟩;{exact ⟨abq _,λj g=>by omega⟩};refine eX cX trivial
 rintro i ⟨hi,hn⟩;refine sg rfl (sq ?_);refine cd rfl (λb=>?_) (λb=>?_);{(have a:i<L.length:=by simpa using b);refine sk (sq (bk (sq (rg [] rfl ?_))));refine sg rfl (cd rfl (λc=>?_) (λc=>?_));{(have he:L.getD i 0=x:=by have e:(x==L.getD i 0)=true:=c;simp at e;exact e.symm);exact sg rfl (WP.ret (bf hT (by rfl) (aaE a he hn)))};(have he:L.getD i 0≠x:=by have e:(x==L.getD i 0)=false:=c;simp at e;exact λh=>e h.symm);refine sk (rg [] rfl ?_);refine ⟨i+1,?_,?_,?_⟩;{exact ⟨a,all_succ (Q:=λj=>L.getD j 0≠x) hn he⟩};{refine eX cX trivial};(try simp only []);first | omega | grind};(have a:i=L.length:=by simp at b;omega);subst a;refine xt (sq (rg [] rfl ?_));exact WP.ret (bf hT (by rfl) (aaD hn))
theorem PI (f:Bool) (L:List Int) (x:Int):AC Tryz.prog T aH 159 [ints f L,.int x] [] (.bool (decide (x∈L))) []:=by
 refine aX Tryz.func159 ?_;refine sg rfl (sq (rgs [CG.pure (.int (Rh L x))] rfl ?_ ?_))
 ·have b:=Yo f L x;exact au
 refine rX ?_;refine fin1 hT (by rfl) ?_;apply decide_eq_decide.2;rw [Rh];split
 ·rename_i h;exact ⟨λ_=>h,λ_=>by omega⟩
 rename_i h;exact ⟨λa=>by omega,λa=>absurd a h⟩
def zq (p:ak) (s:cZ) (x:bF):Prop:=(0<=x.go/\x.go<6)/\mG (goI s x.go)=true/\x.alt∈iR p s x.go
instance (p:ak) (s:cZ) (x:bF):Decidable (zq p s x):=by unfold zq;infer_instance
def rM (p:ak) (m:PM) (next made:Int):PM :=
 if m.over=true then m else if 0<=made then ig p (ig p (fB m { aC m with pc:=next}) m.g) made else ig p (fB m { aC m with pc:=next}) m.g
def nV (p:ak) (s:cZ) (x:bF) (n:Int):PM×Int×Int:=pX p (jK s x.go n) (aU p s x.go) x.alt
def kY (p:ak) (s:cZ) (x:bF) (val:Int):Wv:=⟨x.go,(goI s x.go).func,(goI s x.go).pc,(aU p s x.go).op,x.alt,val,if (aU p s x.go).op=65 then (aU p s x.go).n else 0,(dM p s x.go).map BT.t,(dM p s x.go).length⟩
def pY (p:ak) (s:cZ) (x:bF) (n:Int):cZ×Wv×Int :=
 if mM p s≠0 then (st0,yx,mM p s)else if ¬ (0<=n/\n<=4096)then (st0,yx,1)else if ¬ zq p s x then (st0,yx,5)else
 ((rM p (nV p s x n).1 (nV p s x n).2.1 (nV p s x n).2.2).s,kY p s x (nV p s x n).1.val,0)
theorem zeroE:(T 137).zero=iJ yx:=rfl
theorem VQ {l:List Qc} {t:Qc} (h:l.length<6):(Y2 l).put [l.length] (vS t)=Y2 (l++[t]):=bH λj=>by
 show (bif Nat.beq j l.length then _ else _)=_;cases b:Nat.beq j l.length with
 | true =>
  have:=abA b;subst this;simp [aae];cases t;rfl
 | false =>
  have c:j≠l.length:=λe=>by subst e;simp at b
  simp only [adB];show vS (l.getD j rQ)=vS ((l++[t]).getD j rQ)
  rcases adv j l.length with a | a
  ·simp only [aae,acP a]
  ·simp only [aae,adA (show l.length<=j by omega),adA (show (l++[t]).length<=j by simp;omega)]
theorem Tf (e:Wv) {t:Qc} (h:e.ts.length<6):(iJ e).put [7,e.ts.length] (vS t)=iJ { e with ts:=e.ts++[t] }:=(dh (abZ rfl)).trans (ac8 (λz=>bC 137 [.int e.go,.int e.a,.int e.b,.int e.op,.int e.c,.int e.val,.int e.tag,z,.int e.n]) (VQ h))
theorem XP (e:Wv) (x:Int):(iJ e).put [8] (.int x)=iJ { e with n:=x}:=dh (abZ rfl)
theorem Oz (e:Wv) (x:Int):(iJ e).put [5] (.int x)=iJ { e with val:=x}:=dh (abZ rfl)
theorem OA (e:Wv) (x:Int):(iJ e).put [6] (.int x)=iJ { e with tag:=x}:=dh (abZ rfl)
theorem Ua (a b c d e:Int):(((((iJ yx).put [0] (.int a)).put [1] (.int b)).put [2] (.int c)).put [3] (.int d)).put [4] (.int e)=iJ ⟨a,b,c,d,e,0,0,[],0⟩:=by
 rw [show (iJ yx).put [0] (.int a)=iJ { yx with go:=a}from dh (abZ rfl),show (iJ { yx with go:=a}).put [1] (.int b)=iJ { yx with go:=a,a:=b}from dh (abZ rfl),
  show (iJ { yx with go:=a,a:=b}).put [2] (.int c)=iJ { yx with go:=a,a:=b,b:=c}from dh (abZ rfl),show (iJ { yx with go:=a,a:=b,b:=c}).put [3] (.int d)=iJ { yx with go:=a,a:=b,b:=c,op:=d}from dh (abZ rfl),
  show (iJ { yx with go:=a,a:=b,b:=c,op:=d}).put [4] (.int e)=iJ { yx with go:=a,a:=b,b:=c,op:=d,c:=e}from dh (abZ rfl)];rfl
theorem Gj {p:ak} {s:cZ} {g:Int} (h:dZ p s g):(dM p s g).length<=5:=by
 have a:=RF jS (jw (iF p s g)) (jw (iF p s g)).length;have b:(jw (iF p s g)).length=(iF p s g).length:=tN Nr _;have c:=Oo h;rw [dM];omega
def nD (p:ak) (s:cZ) (x:bF) (k:Nat):Wv:=⟨x.go,(goI s x.go).func,(goI s x.go).pc,(aU p s x.go).op,x.alt,0,0,((dM p s x.go).take k).map BT.t,k⟩
theorem Hw {s:cZ} (h:oh s) {g n:Int} (hg:0<=g/\g<6):mX (jK s g n):=⟨h,hg⟩
theorem Tm {p:ak} {m:PM} (h:mX m) (x:iG) (alt:Int):mX (pX p m x alt).1:=by
 unfold pX;repeat' split
 ·exact Ht h x
 ·exact Hu h _ _
 ·exact pq (pq (um h _) _ _) _ _
 ·exact Vr h _
 ·exact OL h _
 ·exact QO h _ _
 ·exact JO h x
 ·exact gQ h _
 ·exact wK (gQ h _) _
 ·exact gQ h _
 exact h
theorem sU {p:ak} {s:cZ} (h:oh s) (g n:Int):oh (bZ p s g n).1:=by
 unfold bZ;split
 ·exact uj
 rename_i b;have b:fE p=true:=by simpa using b
 split
 ·exact uj
 rename_i c;have c:dF p s:=by simpa using c
 split
 ·exact uj
 rename_i hg;split
 ·exact uj
 rename_i hc;split
 ·have a:=(c.2.2.2.2.1 g.toNat (by omega)).1 (by omega)
  have hF:xk p (bP p (goI s g)):=(kJ b).fn _ (by
   rw [bP,aae,Y0 (show (goI s g).func.toNat<p.funcs.length by have d:0<=(goI s g).func/\(goI s g).func<p.funcs.length:=a.2.1;omega)]
   exact acr _)
  exact h.fB (Lm hF (g:={ goI s g with status:=1}) ⟨gZ h _,a.2.2.1⟩).1.1
 exact h
theorem Y3 (p:ak) (s:cZ) (g n:Int):((((T 263).zero.put [0] (aj p)).put [1] (encS s)).put [2] (.int g)).put [3] (.int n)=jg p (jK s g n):=bH λq=>by match q with | 0 | 1 | 2 | 3 | 4 | 5 | q+6=>rfl
theorem abh (p:ak) (s:cZ) (x:bF) (n:Int) (hs:oh s):AC Tryz.prog T aH 113 [aj p,encS s,aT x,.int n] [] (.tup [encS (pY p s x n).1,iJ (pY p s x n).2.1,.int (pY p s x n).2.2]) []:=by
 refine aX Tryz.func113 ?_;refine sg rfl (sq (sq ?_));refine WP.ent (st':=aN [(4,.rp 26 (aj p)),(5,.rp 62 (encS s)),(6,.rp 122 (aT x)),(3,.int n),(8,.ptr (.s 8 0) 1 0 []),(9,.ptr (.s 9 0) 1 0 [])] [(.s 8 0,.cells ⟨62,1,λ_=>(T 62).zero,0⟩),(.s 9 0,.cells ⟨137,1,λ_=>(T 137).zero,0⟩)]) (em [(.s 4 0,1),(.s 5 0,1),(.s 6 0,1)] ⟨sF,sF,sF,tt⟩ ⟨rq,rq,rq,cq,cq,cq,tt⟩ ⟨obs rfl,obs rfl,tt⟩) ?_;refine rgs [CG.pure (.int (mM p s))] rfl ?_ ?_
 ·have hq:=IY p s hs;exact au
 refine sg rfl (cd rfl (λh2=>?_) (λh2=>?_))
 ·(have f:mM p s≠0:=by simpa using h2);refine sg rfl (rX ?_);exact yu hT rfl rfl rfl rfl rfl (ah (by rw [pY,aa2 f];exact zeroS)) (ah (by rw [pY,aa2 f];exact zeroE)) (by rw [pY,aa2 f]) (hno':=qm _)
 (have f:¬ mM p s≠0:=by simpa using h2);have hv:dF p s:=aci (by simpa using f);refine sk (sq (sq (rg [] rfl ?_)));refine cd rfl (λh4=>?_) (λh4=>?_);{(have hf:¬ (0<=n/\n<=4096):=by simp only [fG]at h4;simp at h4;omega);refine sg rfl (rX ?_);exact yu hT rfl rfl rfl rfl rfl (ah (by rw [pY,xw f,aa2 hf];exact zeroS)) (ah (by rw [pY,xw f,aa2 hf];exact zeroE)) (by rw [pY,xw f,aa2 hf]) (hno':=qm _)};(have hf:0<=n/\n<=4096:=by simp only [fG]at h4;simp at h4;omega);have i:¬ ¬ (0<=n/\n<=4096):=λh=>h hf;refine sk (sq (sq (drs [CG.pure (.bool (mG (goI s x.go))),CG.pure (ints false (iR p s x.go)),CG.pure (.bool (decide (x.alt∈iR p s x.go)))] rfl ?_ ?_)));{have b5:0<=x.go/\x.go<6->_:=λh=>Gt s x.go h;have b6:0<=x.go/\x.go<6->mG (goI s x.go)=true->_:=λh h'=>Uk p s x.go ⟨hs,hv,h',h⟩;have b7:=PI false (iR p s x.go) x.alt;simp only [ay,under,CG.pure];(repeat' with_reducible refine And.intro ?_ ?_);(all_goals (try with_reducible intros));all_goals (first | exact trivial | assumption | exact b7 | (refine b5 ?_;simp_all <;> omega) | (refine b6 ?_ ?_ <;> simp_all <;> omega) | (simp_all;done))};refine cd rfl (λh6=>?_) (λh6=>?_);{(have hp:¬ zq p s x:=by simp only [fG]at h6;intro h;have a:=h.1;have b:=h.2.1;have c:=h.2.2;simp only [goI]at b;rw [show decide (x.go<0)=false from acB (by omega),show decide (x.go>=6)=false from acB (by omega),adx c]at h6;simp [-List.getD_eq_getElem?_getD,b]at h6);refine sg rfl (rX ?_);exact yu hT rfl rfl rfl rfl rfl (ah (by rw [pY,xw f,xw i,aa2 hp];exact zeroS)) (ah (by rw [pY,xw f,xw i,aa2 hp];exact zeroE)) (by rw [pY,xw f,xw i,aa2 hp]) (hno':=qm _)};(have hp:zq p s x:=by simp only [fG]at h6;simp [-List.getD_eq_getElem?_getD]at h6;exact ⟨by omega,by simp_all,by simp_all⟩);have a4:¬ ¬ zq p s x:=λh=>h hp;have o:dZ p s x.go:=⟨hs,hv,hp.2.1,hp.1⟩;have b4:=hp.1;refine sk (sq (rgs [CG.pure (aQ (aU p s x.go))] rfl ?_ ?_));{have hq:=Uh p s x.go o;exact au};refine sq (drs [] rfl ?_ ?_);{simp [-List.getD_eq_getElem?_getD,ay,under];omega};refine sq (sq ?_);refine wQ [(.s 12 0,1)] [(3,.int n),(4,.rp 26 (aj p)),(5,.rp 62 (encS s)),(6,.rp 122 (aT x)),(8,.ptr (.s 8 0) 1 0 []),(9,.ptr (.s 9 0) 1 0 []),(12,.rp 120 (aQ (aU p s x.go))),(13,.ptr (.s 13 0) 1 0 [])] [(.s 8 0,.cells ⟨62,1,λ_=>(T 62).zero,0⟩),(.s 9 0,.cells ⟨137,1,λ_=>(T 137).zero,0⟩),(.s 13 0,.cells ⟨137,1,λ_=>iJ (nD p s x 0),0⟩)] ⟨obs rfl,obs rfl,obs rfl (hg:=q0 (ah (Ua _ _ _ _ _))),tt⟩ (rgs [CG.pure (rowP 134 fJ jS (dM p s x.go))] rfl ?_ ?_);{have hq:=Nl p s x.go o;exact au};refine bk (WP.loop (α:=Nat) (λk=>aN [(3,.int n),(4,.rp 26 (aj p)),(5,.rp 62 (encS s)),(6,.rp 122 (aT x)),(8,.ptr (.s 8 0) 1 0 []),(9,.ptr (.s 9 0) 1 0 []),(12,.rp 120 (aQ (aU p s x.go))),(13,.ptr (.s 13 0) 1 0 []),(91,rowP 134 fJ jS (dM p s x.go)),(92,.int (dM p s x.go).length),(93,.int k)] [(.s 8 0,.cells ⟨62,1,λ_=>(T 62).zero,0⟩),(.s 9 0,.cells ⟨137,1,λ_=>(T 137).zero,0⟩),(.s 13 0,.cells ⟨137,1,λ_=>iJ (nD p s x k),0⟩)]) (λk=>k<=(dM p s x.go).length) (λk=>(dM p s x.go).length - k) ?_ ?_);{refine ⟨0,?_,?_⟩;{exact abq _};refine eX cX ⟨obs rfl,obs rfl,obs rfl,tt⟩};rintro k hk;have c4:=Gj o;refine sg rfl (sq ?_);refine cd rfl (λu=>?_) (λu=>?_);{(have l:k<(dM p s x.go).length:=by simp [-List.getD_eq_getElem?_getD]at u;omega);(have b8:(nD p s x k).ts.length=k:=by show (((dM p s x.go).take k).map BT.t).length=k;rw [ad5,adn];omega);refine sk (sq (bk (sq (rgs [] rfl ?_ ?_))));{simp [-List.getD_eq_getElem?_getD,ay,under];omega};refine sq (rgs [] rfl ?_ ?_);{(have a2:0<=(nD p s x k).n/\(nD p s x k).n<6:=by show 0<=(k:Int)/\(k:Int)<6;omega);simp only [ay,under,CG.pure];(repeat' with_reducible refine And.intro ?_ ?_);(all_goals (try with_reducible intros));all_goals (first | exact trivial | assumption | omega | exact a2 | exact a2.1 | exact a2.2 | (simp;done) | grind)};refine wE [(3,.int n),(4,.rp 26 (aj p)),(5,.rp 62 (encS s)),(6,.rp 122 (aT x)),(8,.ptr (.s 8 0) 1 0 []),(9,.ptr (.s 9 0) 1 0 []),(12,.rp 120 (aQ (aU p s x.go))),(13,.ptr (.s 13 0) 1 0 []),(91,rowP 134 fJ jS (dM p s x.go)),(92,.int (dM p s x.go).length),(93,.int k)] [(.s 8 0,.cells ⟨62,1,λ_=>(T 62).zero,0⟩),(.s 9 0,.cells ⟨137,1,λ_=>(T 137).zero,0⟩),(.s 13 0,.cells ⟨137,1,λ_=>iJ { nD p s x k with ts:=(nD p s x k).ts++[((dM p s x.go).getD k jS).t] },0⟩)] ⟨obs rfl,obs rfl,obs rfl (hg:=q0 (ah ((ac8 (λz:Nat=>(iJ (nD p s x k)).put [7,z] (vS ((dM p s x.go).getD k jS).t)) (show ((nD p s x k).n).toNat=(nD p s x k).ts.length by rw [b8];exact adu k)).trans (Tf (nD p s x k) (by omega))))),tt⟩ (rg [] rfl ?_);refine rg [] rfl ?_;(have e2:iJ { nD p s x k with ts:=(nD p s x k).ts++[((dM p s x.go).getD k jS).t],n:=(k:Int)+1}=iJ (nD p s x (k+1)):=by(have e3:(nD p s x k).ts++[((dM p s x.go).getD k jS).t]=(nD p s x (k+1)).ts:=by show ((dM p s x.go).take k).map BT.t++_=((dM p s x.go).take (k+1)).map BT.t;rw [aei,Y0 l,List.map_append];simp [l]);rw [e3];rfl);have hw:IntKind.i64.wrap ((nD p s x k).n+1)=(k:Int)+1:=bK (by show _<=(k:Int)+1;omega) (by show (k:Int)+1<_;omega);refine ⟨k+1,?_,?_,?_⟩;{exact l};{refine eX cX ⟨obs rfl,obs rfl,obs rfl (hg:=q0 (ah ((ac8 (λz:Int=>(iJ { nD p s x k with ts:=(nD p s x k).ts++[((dM p s x.go).getD k jS).t] }).put [8] (.int z)) hw).trans ((XP _ _).trans e2)))),tt⟩};(try simp only []);first | omega | grind};(have l:k=(dM p s x.go).length:=by simp [-List.getD_eq_getElem?_getD]at u;omega);obtain ⟨d,j⟩:∃ d,nV p s x n=d:=⟨_,rfl⟩;(have e:mX d.1:=by rw [<- j];exact Tm (Hw hs b4) _ _);refine xt (sq (rg [] rfl ?_));refine sq (wE [(4,.rp 26 (aj p)),(5,.rp 62 (encS s)),(6,.rp 122 (aT x)),(8,.ptr (.s 8 0) 1 0 []),(9,.ptr (.s 9 0) 1 0 []),(12,.rp 120 (aQ (aU p s x.go))),(13,.ptr (.s 13 0) 1 0 []),(16,.ptr (.s 113 0) 1 0 [])] [(.s 8 0,.cells ⟨62,1,λ_=>(T 62).zero,0⟩),(.s 9 0,.cells ⟨137,1,λ_=>(T 137).zero,0⟩),(.s 13 0,.cells ⟨137,1,λ_=>iJ (nD p s x k),0⟩),(.s 113 0,mO p (jK s x.go n))] ⟨obs rfl,obs rfl,obs rfl,obs rfl (hg:=q0 (ah (Y3 p s x.go n))),tt⟩ ?_);refine rgs [⟨true,[.s 113 0],.tup [.int d.2.1,.int d.2.2],[mO p d.1]⟩] rfl ?_ ?_;{(have hq:AC Tryz.prog T aH 161 [.ptr (.b 0) 1 0 [],ren (sig [.s 113 0] 0) (aQ (aU p s x.go)),.int x.alt] (List.map (fK (sig [.s 113 0] 0)) [mO p (jK s x.go n)]) (.tup [.int d.2.1,.int d.2.2]) [mO p d.1]:=by have hz:ren (sig [.s 113 0] 0) (aQ (aU p s x.go))=aQ (aU p s x.go):=bH (λq=>by match q with | 0 | 1 | 2 | 3 | 4 | q+5=>rfl);rw [mY,hz,<- j];exact acn p s x.go n x.alt o hp.2.2);have a0:=bQ [.s 113 0] p (jK s x.go n);have a1:=bQ (bs 1) p d.1;exact au};refine sq (wE [(8,.ptr (.s 8 0) 1 0 []),(9,.ptr (.s 9 0) 1 0 []),(12,.rp 120 (aQ (aU p s x.go))),(13,.ptr (.s 13 0) 1 0 []),(16,.ptr (.s 113 0) 1 0 []),(17,.int d.2.1),(18,.int d.2.2)] [(.s 8 0,.cells ⟨62,1,λ_=>(T 62).zero,0⟩),(.s 9 0,.cells ⟨137,1,λ_=>(T 137).zero,0⟩),(.s 13 0,.cells ⟨137,1,λ_=>iJ (nD p s x k),0⟩),(.s 113 0,mO p d.1)] ⟨obs rfl,obs rfl,obs rfl,obs rfl (hg:=q0 (ah (iH _ _ _))),tt⟩ ?_);refine rg [] rfl (WP.seqJ (α:=Unit) (λ_=>aN [(8,.ptr (.s 8 0) 1 0 []),(9,.ptr (.s 9 0) 1 0 []),(13,.ptr (.s 13 0) 1 0 []),(16,.ptr (.s 113 0) 1 0 []),(17,.int d.2.1),(18,.int d.2.2)] [(.s 8 0,.cells ⟨62,1,λ_=>(T 62).zero,0⟩),(.s 9 0,.cells ⟨137,1,λ_=>(T 137).zero,0⟩),(.s 13 0,.cells ⟨137,1,λ_=>iJ (kY p s x d.1.val),0⟩),(.s 113 0,mO p d.1)]) (λ_=>True) ?_ ?_);{refine sq ?_;(have ee:∀ t:Int,iJ { nD p s x k with val:=d.1.val,tag:=t}=iJ ⟨x.go,(goI s x.go).func,(goI s x.go).pc,(aU p s x.go).op,x.alt,d.1.val,t,(dM p s x.go).map BT.t,(dM p s x.go).length⟩:=λt=>by rw [nD,l,adX]);refine wE [(8,.ptr (.s 8 0) 1 0 []),(9,.ptr (.s 9 0) 1 0 []),(12,.rp 120 (aQ (aU p s x.go))),(13,.ptr (.s 13 0) 1 0 []),(16,.ptr (.s 113 0) 1 0 []),(17,.int d.2.1),(18,.int d.2.2)] [(.s 8 0,.cells ⟨62,1,λ_=>(T 62).zero,0⟩),(.s 9 0,.cells ⟨137,1,λ_=>(T 137).zero,0⟩),(.s 13 0,.cells ⟨137,1,λ_=>iJ { nD p s x k with val:=d.1.val},0⟩),(.s 113 0,mO p d.1)] ⟨obs rfl,obs rfl,obs rfl (hg:=q0 (ah (Oz _ _))),obs rfl,tt⟩ (rg [] rfl ?_);refine cd rfl (λv=>?_) (λv=>?_);{(have r:(aU p s x.go).op=65:=by simpa using v);refine rg [] rfl ⟨(),?_,?_⟩;{trivial};refine eX cX ⟨obs rfl,obs rfl,obs rfl (hg:=q0 (ah ((OA _ _).trans ((ee _).trans (by rw [kY,aa2 r]))))),obs rfl,tt⟩};(have r:¬ (aU p s x.go).op=65:=by simpa using v);refine sk ⟨(),?_,?_⟩;{trivial};refine eX cX ⟨obs rfl,obs rfl,obs rfl (hg:=q0 (ah ((ee 0).trans (by rw [kY,xw r])))),obs rfl,tt⟩};rintro _ b2;refine sq (sq ?_);(have b3:d.1.g.toNat<d.1.s.gos.length:=by rw [e.s.gos];have:=e.g;omega);refine rg [] rfl (cd rfl (λw=>?_) (λw=>?_));{(have m:¬ d.1.over=true:=by simpa using w);refine sq (rgs [⟨true,[.s 113 0],.ptr (.b 0) 1 0 [1,3,d.1.g.toNat],[mO p d.1]⟩] rfl ?_ ?_);{(have hq:AC Tryz.prog T aH 162 [.ptr (.b 0) 1 0 []] (List.map (fK (sig [.s 113 0] 0)) [mO p d.1]) (rH d.1) [mO p d.1]:=by rw [mY];exact QJ p d.1 e.g);have a0:=bQ [.s 113 0] p d.1;have a1:=bQ (bs 1) p d.1;exact au};refine sq (wE [(8,.ptr (.s 8 0) 1 0 []),(9,.ptr (.s 9 0) 1 0 []),(13,.ptr (.s 13 0) 1 0 []),(16,.ptr (.s 113 0) 1 0 []),(18,.int d.2.2)] [(.s 8 0,.cells ⟨62,1,λ_=>(T 62).zero,0⟩),(.s 9 0,.cells ⟨137,1,λ_=>(T 137).zero,0⟩),(.s 13 0,.cells ⟨137,1,λ_=>iJ (kY p s x d.1.val),0⟩),(.s 113 0,mO p (fB d.1 { aC d.1 with pc:=d.2.1}))] ⟨obs rfl,obs rfl,obs rfl,obs rfl (hg:=q0 (ah ((ac8 (λz=>AV.put z [1,3,d.1.g.toNat,2] (.int d.2.1)) (iH _ _ _)).trans (Ox b3 (qj _ _))))),tt⟩ ?_);refine rgs [⟨true,[.s 113 0],.tup [],[mO p (ig p (fB d.1 { aC d.1 with pc:=d.2.1}) d.1.g)]⟩] rfl ?_ ?_;{(have hq:AC Tryz.prog T aH 163 [.ptr (.b 0) 1 0 [],.int d.1.g] (List.map (fK (sig [.s 113 0] 0)) [mO p (fB d.1 { aC d.1 with pc:=d.2.1})]) (.tup []) [mO p (ig p (fB d.1 { aC d.1 with pc:=d.2.1}) d.1.g)]:=by rw [mY];exact HY p _ _ (e.s.fB (x:={ aC d.1 with pc:=d.2.1}) (gZ e.s _)));have a0:=bQ [.s 113 0] p (fB d.1 { aC d.1 with pc:=d.2.1});have a1:=bQ (bs 1) p (ig p (fB d.1 { aC d.1 with pc:=d.2.1}) d.1.g);exact au};refine sq (wE [(8,.ptr (.s 8 0) 1 0 []),(9,.ptr (.s 9 0) 1 0 []),(13,.ptr (.s 13 0) 1 0 []),(16,.ptr (.s 113 0) 1 0 []),(18,.int d.2.2)] [(.s 8 0,.cells ⟨62,1,λ_=>(T 62).zero,0⟩),(.s 9 0,.cells ⟨137,1,λ_=>(T 137).zero,0⟩),(.s 13 0,.cells ⟨137,1,λ_=>iJ (kY p s x d.1.val),0⟩),(.s 113 0,mO p (ig p (fB d.1 { aC d.1 with pc:=d.2.1}) d.1.g))] ⟨obs rfl,obs rfl,obs rfl,obs rfl (hg:=q0 (ah (iH _ _ _))),tt⟩ ?_);refine rg [] rfl (cd rfl (λy=>?_) (λy=>?_));{have a3:0<=d.2.2:=aep y;refine rgs [⟨true,[.s 113 0],.tup [],[mO p (ig p (ig p (fB d.1 { aC d.1 with pc:=d.2.1}) d.1.g) d.2.2)]⟩] rfl ?_ ?_;{(have hq:AC Tryz.prog T aH 163 [.ptr (.b 0) 1 0 [],.int d.2.2] (List.map (fK (sig [.s 113 0] 0)) [mO p (ig p (fB d.1 { aC d.1 with pc:=d.2.1}) d.1.g)]) (.tup []) [mO p (ig p (ig p (fB d.1 { aC d.1 with pc:=d.2.1}) d.1.g) d.2.2)]:=by rw [mY];exact HY p _ _ (sU (e.s.fB (x:={ aC d.1 with pc:=d.2.1}) (gZ e.s _)) _ _));have a0:=bQ [.s 113 0] p (ig p (fB d.1 { aC d.1 with pc:=d.2.1}) d.1.g);have a1:=bQ (bs 1) p (ig p (ig p (fB d.1 { aC d.1 with pc:=d.2.1}) d.1.g) d.2.2);exact au};refine sq (dr [] rfl ?_);refine rX ?_;(have er:rM p d.1 d.2.1 d.2.2=ig p (ig p (fB d.1 { aC d.1 with pc:=d.2.1}) d.1.g) d.2.2:=by rw [rM,xw m,aa2 a3]);(have ed:pY p s x n=((ig p (ig p (fB d.1 { aC d.1 with pc:=d.2.1}) d.1.g) d.2.2).s,kY p s x d.1.val,0):=by rw [pY,xw f,xw i,xw a4,j,er]);rw [ed];exact yu hT rfl rfl rfl rfl rfl (ah (JG _ _)) (ah rfl) rfl (hno':=qm _)};have a3:¬ 0<=d.2.2:=aeO y;refine sk (sq (dr [] rfl ?_));refine rX ?_;(have er:rM p d.1 d.2.1 d.2.2=ig p (fB d.1 { aC d.1 with pc:=d.2.1}) d.1.g:=by rw [rM,xw m,xw a3]);(have ed:pY p s x n=((ig p (fB d.1 { aC d.1 with pc:=d.2.1}) d.1.g).s,kY p s x d.1.val,0):=by rw [pY,xw f,xw i,xw a4,j,er]);rw [ed];exact yu hT rfl rfl rfl rfl rfl (ah (rfl)) (ah rfl) rfl (hno':=qm _)};(have m:d.1.over=true:=by simpa using w);refine sk (sq (dr [] rfl ?_));refine rX ?_;(have er:rM p d.1 d.2.1 d.2.2=d.1:=by rw [rM,aa2 m]);(have ed:pY p s x n=((d.1).s,kY p s x d.1.val,0):=by rw [pY,xw f,xw i,xw a4,j,er]);rw [ed];exact yu hT rfl rfl rfl rfl rfl (ah (rfl)) (ah rfl) rfl (hno':=qm _)
structure dO where
 steps:Int
 fuel:Int
 runs:Int
def bY (b:dO):AV:=bC 28 [.int b.steps,.int b.fuel,.int b.runs]
def rP (b:dO):Prop:=(0<=b.steps/\b.steps<=256)/\(0<=b.fuel/\b.fuel<=4096)/\(0<=b.runs/\b.runs<=65536)
instance (b:dO):Decidable (rP b):=by unfold rP;infer_instance
def inB (n m:Int):Bool:=decide (0<=n/\n<=m)
theorem Iq (n m:Int):AC Tryz.prog T aH 112 [.int n,.int m] [] (.bool (inB n m)) []:=by
 refine aX Tryz.func112 ?_;refine sg rfl (sg rfl ?_);refine rX ?_;refine fin1 hT (by rfl) ?_;simp only [band];rw [inB,acs];simp
def dD (p:ak) (n:Int) (b:dO):Int:=if fE p=false then 3 else if 256<n then 2 else if ¬ rP b then 6 else 0
theorem ZO (p:ak) (n:Int) (b:dO):AC Tryz.prog T aH 66 [aj p,.int n,bY b] [] (.int (dD p n b)) []:=by
 refine aX Tryz.func66 ?_;refine sg rfl (sq (sq ?_));refine WP.ent (st':=aN [(3,.rp 26 (aj p)),(5,.rp 28 (bY b)),(1,.int n)] []) (em [(.s 3 0,1),(.s 5 0,1)] ⟨sF,sF,tt⟩ ⟨rq,rq,cq,tt⟩ trivial) ?_;refine rgs [CG.pure (zH p)] rfl ?_ ?_
 ·have m:=Ed p;exact au
 refine sg rfl (cd rfl (λe=>?_) (λe=>?_))
 ·(have g:fE p=false:=by simp at e;simp [fE];exact e);exact sg rfl (WP.ret (bf hT (by rfl) (by rw [dD,aa2 g])))
 (have g:¬ fE p=false:=by simp at e;simp [fE];exact e);refine sk (sq (sq (rg [] rfl ?_)));refine cd rfl (λi=>?_) (λi=>?_);{(have hn:256<n:=by simpa using i);exact sg rfl (WP.ret (bf hT (by rfl) (by rw [dD,xw g,aa2 hn])))};(have hn:¬ 256<n:=by simp at i;omega);refine sk (sq (rg [] rfl ?_));refine sq (sq (rgs [CG.pure (.bool (inB b.steps 256)),CG.pure (.bool (inB b.fuel 4096)),CG.pure (.bool (inB b.runs 65536))] rfl ?_ ?_));{have j:=Iq b.steps 256;have k:=Iq b.fuel 4096;have l:=Iq b.runs 65536;exact au};refine cd rfl (λf=>?_) (λf=>?_);{(have hb:¬ rP b:=by simp only [fG,inB]at f;intro ⟨a,c,d⟩;simp at f;omega);exact sg rfl (WP.ret (bf hT (by rfl) (by rw [dD,xw g,xw hn,aa2 hb])))};have hb:¬ ¬ rP b:=λh=>h (by simp only [fG,inB]at f;simp at f;exact ⟨by omega,by omega,by omega⟩);refine sk (sq (rg [] rfl ?_));exact WP.ret (bf hT (by rfl) (by rw [dD,xw g,xw hn,xw hb]))
theorem YM {p:ak} {n:Int} {b:dO} (h:dD p n b=0):fE p=true/\n<=256/\rP b:=by
 unfold dD at h;split at h
 ·cases h
 rename_i a;split at h
 ·cases h
 rename_i d;split at h
 ·cases h
 rename_i c;exact ⟨by simpa using a,by omega,by simpa using c⟩
theorem Xx (x:bF) (n:Int):AC Tryz.prog T aH 175 [aT x,.rp 3 (.int n)] [] (.bool (x.go==n)) []:=by
 refine aX Tryz.func175 ?_;refine sg rfl (sg rfl ?_);exact WP.ret (fin1 hT (by rfl) rfl)
def ny (l:List bF) (n:Int):Int:=if l.any (λx=>x.go==n)then (l.findIdx (λx=>x.go==n):Nat)else -1
theorem YE {l:List bF} {n:Int} {i:Nat} (hi:i<l.length) (h:((l.getD i dG).go==n)=true) (hn:∀ j,j<i->((l.getD j dG).go==n)=false):ny l n=i:=by
 have e:l.getD i dG=l[i]:=by simp [hi]
 have hm:l.any (λx=>x.go==n)=true:=List.any_eq_true.2 ⟨l[i],acr hi,by rw [<- e];exact h⟩;rw [ny,aa2 hm];congr 1;rw [List.findIdx_eq hi];refine ⟨by rw [<- e];exact h,λj b=>?_⟩;have:=hn j b;have a:j<l.length:=by omega
 rwa [aae,Y0 a]at this
theorem YC {l:List bF} {n:Int} (hn:∀ j,j<l.length->((l.getD j dG).go==n)=false):ny l n = -1:=by
 rw [ny,xw];rw [aeM];rintro ⟨x,hx,h⟩;obtain ⟨j,a,e⟩:=aeA hx;have:=hn j a;rw [aae,Y0 a,adF,e]at this;rw [this]at h;cases h
abbrev uP (n:Int):Ob := .cells ⟨3,1,λ_ => .int n,0⟩
theorem UZ (g:Bool) (l:List bF) (n:Int):AC Tryz.prog T aH 174 [.row 122 g l.length (λi=>aT (l.getD i dG)),.clo 175 [.ptr (.b 0) 1 0 []]] [uP n] (.int (ny l n)) [uP n]:=by
 refine aX Tryz.func174 ?_;refine WP.rowlen 0 rfl (λhl=>?_);refine sg rfl (sq (sq (rg [] rfl ?_)));refine bk (WP.loop (α:=Nat) (λi=>aN [(0,.row 122 g l.length (λi=>aT (l.getD i dG))),(1,.clo 175 [.ptr (.b 0) 1 0 []]),(7,.int l.length),(8,.int i)] [(.b 0,uP n)]) (λi=>i<=l.length /\ ∀ j,j<i->((l.getD j dG).go==n)=false) (λi=>l.length - i) ?_ ?_)
 ·refine ⟨0,?_,?_⟩;{exact ⟨abq _,λj h=>by omega⟩};refine eX cX ⟨obs rfl,tt⟩
 rintro i ⟨hi,hn⟩;refine sg rfl (sq ?_);refine cd rfl (λd=>?_) (λd=>?_);{(have c:i<l.length:=by simpa using d);refine sk (sq (bk (sq (rg [] rfl ?_))));refine sq (rgs [CG.pure (.bool ((l.getD i dG).go==n))] rfl ?_ ?_);{have f:=Xx (l.getD i dG) n;(have a:0<=(i:Int)/\(i:Int)<(l.length:Int):=by omega);simp only [ay,under,CG.pure];(repeat' with_reducible refine And.intro ?_ ?_);(all_goals (try with_reducible intros));all_goals (first | exact trivial | assumption | omega | exact f | exact a | exact a.1 | exact a.2 | exact rfl | (simp;done) | grind)};refine cd rfl (λe=>?_) (λe=>?_);{refine sg rfl (rX ?_);refine aJ hT [] (ts:=[(4,.int (ny l n))]) (l:=[.int (ny l n)]) trivial ⟨⟨rfl,_,rfl,ah (ac8 AV.int (YE c e hn).symm)⟩,tt⟩ ⟨obs rfl,tt⟩ rfl rfl rfl};refine sk (rg [] rfl ?_);refine ⟨i+1,?_,?_,?_⟩;{exact ⟨c,all_succ (Q:=λj=>((l.getD j dG).go==n)=false) hn e⟩};{refine eX cX ⟨obs rfl,tt⟩};(try simp only []);first | omega | grind};(have c:i=l.length:=by simp at d;omega);subst c;refine xt (sq (rg [] rfl ?_));refine rX ?_;refine aJ hT [] (ts:=[(4,.int (ny l n))]) (l:=[.int (ny l n)]) trivial ⟨⟨rfl,_,rfl,ah (ac8 AV.int (YC hn).symm)⟩,tt⟩ ⟨obs rfl,tt⟩ rfl rfl rfl
def zh (l:List bF):Nat->Int->bF×Int
 | 0,n=>(dG,n)
 | k+1,n=>if 0<=ny l ((n+1) % 6)then (l.getD (ny l ((n+1) % 6)).toNat dG,((n+1) % 6))else zh l k ((n+1) % 6)
theorem SQ (l:List bF):∀ (k:Nat) (n:Int),0<=n/\n<6->0<=(zh l k n).2/\(zh l k n).2<6
 | 0,n,h=>h
 | k+1,n,h=>by(have a:0<=((n+1) % 6)/\((n+1) % 6)<6:=by omega);rw [zh];split;{exact a};exact SQ l k _ a
theorem VG {l:List bF} {n:Int} {x:bF} (hx:x∈l) (h:x.go=n):0<=ny l n:=by
 have hm:l.any (λx=>x.go==n)=true:=List.any_eq_true.2 ⟨x,hx,beq_iff_eq.2 h⟩;rw [ny,aa2 hm];omega
theorem YD {l:List bF} {n:Int} (h:0<=ny l n):(ny l n).toNat<l.length:=by
 unfold ny at h ⊢;split at h
 ·rename_i hm;rw [aa2 hm,adu];obtain ⟨x,hx,hp⟩:=List.any_eq_true.1 hm;exact List.findIdx_lt_length_of_exists ⟨x,hx,hp⟩
 omega
theorem UY (i:Int) (l:List bF) (n:Int) (hn:0<=n/\n<6) (hl:l≠[]) (hg:∀ x∈l,0<=x.go/\x.go<6):AC Tryz.prog T aH 173 [.int i,dB l,.ptr (.b 0) 1 0 []] [uP n] (.tup [aT (zh l 6 n).1,.bool true]) [uP (zh l 6 n).2]:=by
 refine aX Tryz.func173 ?_;refine WP.rowlen 1 rfl (λp=>?_);refine sg rfl (bk ?_);refine WP.loop (α:=Nat×Int) (λ(⟨k,m⟩:Nat×Int)=>aN [(1,dB l),(2,.ptr (.b 0) 1 0 []),(5,.ptr (.s 5 0) 1 0 [])] [(.b 0,uP m),(.s 5 0,.cells ⟨122,1,λ_=>aT dG,0⟩)]) (λ(⟨k,m⟩:Nat×Int)=>zh l k m=zh l 6 n/\(0<=m/\m<6) /\ ∃ x∈l,∃ j:Nat,j<k/\x.go=(m+1+j) % 6) (λ(⟨k,m⟩:Nat×Int)=>k) ?_ ?_
 ·refine ⟨⟨6,n⟩,?_,?_⟩;{obtain ⟨x,hx⟩:=List.exists_mem_of_ne_nil l hl;have:=hg x hx;refine ⟨rfl,hn,x,hx,((x.go - n - 1) % 6).toNat,by omega,by omega⟩};refine eX cX ⟨obs rfl,obs rfl,tt⟩
 rintro ⟨k,m⟩ ⟨e,hm,x,hx,j,u,r⟩;obtain ⟨k,rfl⟩:∃ t,k=t+1:=⟨k - 1,by omega⟩;have hw:IntKind.i64.wrap (m+1)=m+1:=bK (by omega) (by omega);(have d:0<=((m+1) % 6)/\((m+1) % 6)<6:=by omega);refine bk (sq (rg [] rfl ?_));refine sq (wE [(1,dB l),(2,.ptr (.b 0) 1 0 []),(5,.ptr (.s 5 0) 1 0 [])] [(.b 0,uP ((m+1) % 6)),(.s 5 0,.cells ⟨122,1,λ_=>aT dG,0⟩)] ⟨obs rfl (hg:=q0 (ah ((ac8 (λz:Int=>AV.int (z.tmod 6)) hw).trans (ac8 AV.int (Int.tmod_eq_emod_of_nonneg (by omega)))))),obs rfl,tt⟩ ?_);refine rgs [⟨true,[.b 0],.int (ny l ((m+1) % 6)),[uP ((m+1) % 6)]⟩] rfl ?_ ?_;{have v:=UZ false l ((m+1) % 6);have h:jm [.b 0] [uP ((m+1) % 6)]:=⟨λ_ _=>rfl,tt⟩;have o:jm (bs 1) [uP ((m+1) % 6)]:=⟨λ_ _=>rfl,tt⟩;exact au};refine sg rfl (cd rfl (λc=>?_) (λc=>?_));{(have hp:0<=ny l ((m+1) % 6):=by simpa using c);have q:=YD hp;refine sq (rgs [] rfl ?_ ?_);{(have a:0<=ny l ((m+1) % 6)/\ny l ((m+1) % 6)<(l.length:Int):=by omega);simp only [ay,under,CG.pure];(repeat' with_reducible refine And.intro ?_ ?_);(all_goals (try with_reducible intros));all_goals (first | exact trivial | assumption | omega | exact a | exact a.1 | exact a.2 | (simp;done) | grind)};refine rX ?_;(have f:zh l 6 n=(l.getD (ny l ((m+1) % 6)).toNat dG,((m+1) % 6)):=by rw [<- e,zh,aa2 hp]);rw [f];refine aJ hT [(.s 5 0,1)] (ts:=[(5,.rp 122 (aT (l.getD (ny l ((m+1) % 6)).toNat dG))),(6,.bool true)]) (l:=[aT (l.getD (ny l ((m+1) % 6)).toNat dG),.bool true]) ⟨sF,tt⟩ ⟨⟨rfl,_,rfl,rpv (hF:=by simp [dW,aS])⟩,cq,tt⟩ ⟨obs rfl,tt⟩ rfl rfl rfl};(have hp:¬ 0<=ny l ((m+1) % 6):=by simpa using c);refine sk ⟨⟨k,((m+1) % 6)⟩,?_,?_,?_⟩;{rw [zh,xw hp]at e;refine ⟨e,d,x,hx,?_⟩;rcases aee j with g | g;{exact absurd (VG hx (by omega)) hp};exact ⟨j - 1,by omega,by omega⟩};{refine eX cX ⟨obs rfl,obs rfl,tt⟩};(try simp only []);first | omega | grind
theorem Y7 {p:ak} {s:cZ} {x:bF} {n:Int} (h:oh s):oh (pY p s x n).1:=by
 unfold pY;split
 ·exact uj
 split
 ·exact uj
 split
 ·exact uj
 rename_i hp;have hp:zq p s x:=by simpa using hp
 have a:mX (nV p s x n).1:=Tm (Hw h hp.1) _ _;have b:oh (fB (nV p s x n).1 { aC (nV p s x n).1 with pc:=(nV p s x n).2.1}).s:=a.s.fB (x:={ aC (nV p s x n).1 with pc:=(nV p s x n).2.1}) (gZ a.s _);show oh (rM p _ _ _).s;unfold rM;split
 ·exact a.s
 split
 ·exact sU (sU b _ _) _ _
 exact sU b _ _
theorem BL {p:ak} {n:Int}:oh (dJ p n).1:=by
 unfold dJ;split
 ·exact uj
 rename_i b;split
 ·exact uj
 have hp:=kJ (by simpa using b);have hF:xk p (aV p 0):=hp.fn _ (by rw [aV,aae,Y0 (show 0<p.funcs.length by have:=hp.funcs;omega)];exact acr _);refine ⟨Bl _ _,rfl,rfl,rfl,uj.ch,λg hg=>?_⟩;rcases List.mem_cons.1 hg with a | a
 ·rw [a];exact (Lm hF (Yz hp)).1.1
 exact uj.go g (adK _ a)
theorem Oi {p:ak} {s:cZ} {x:bF} (h:x∈aF p s):x.go∈iP s/\x.alt∈iR p s x.go/\mM p s=0:=by
 unfold aF at h;split at h
 ·rename_i e;obtain ⟨g,b,c⟩:=List.mem_flatMap.1 h;obtain ⟨a,d,rfl⟩:=List.mem_map.1 c;exact ⟨b,d,e⟩
 cases h
theorem XK {p:ak} {s:cZ} {x:bF} (h:x∈aF p s):0<=x.go/\x.go<6:=by
 obtain ⟨j,a,b,_⟩:=xX.1 (Oi h).1;omega
def pI (p:ak) (n:Int):Nat->cZ->Int->List bF×Int
 | 0,s,m=>([],m)
 | k+1,s,m=>if aF p s=[]then ([],m)else
  ((zh (aF p s) 6 m).1::(pI p n k (pY p s (zh (aF p s) 6 m).1 n).1 (zh (aF p s) 6 m).2).1,(pI p n k (pY p s (zh (aF p s) 6 m).1 n).1 (zh (aF p s) 6 m).2).2)
theorem GN (a:Id->Id) (x:bF):ren a (aT x)=aT x:=bH (λq=>by match q with | 0 | 1 | q+2=>rfl)
theorem PU (p:ak) (b:dO) (n:Int) (hn:0<=n/\n<6) (hb:0<=b.steps/\b.steps<=256):AC Tryz.prog T aH 67 [aj p,bY b,.clo 173 [.ptr (.b 0) 1 0 []]] [uP n] (dB (pI p b.fuel b.steps.toNat (dJ p b.fuel).1 n).1) [uP (pI p b.fuel b.steps.toNat (dJ p b.fuel).1 n).2]:=by
 refine aX Tryz.func67 ?_;refine sg rfl (sq ?_);refine wQ [(.s 3 0,1),(.s 4 0,1)] [(2,.clo 173 [.ptr (.b 0) 1 0 []]),(3,.rp 26 (aj p)),(4,.rp 28 (bY b))] [(.b 0,uP n)] ⟨obs rfl,tt⟩ (rgs [CG.pure (.tup [encS (dJ p b.fuel).1,.int (dJ p b.fuel).2])] rfl ?_ ?_)
 ·have d:=Nv p b.fuel;exact au
 refine sg rfl (sq (bk ?_));refine WP.loop (α:=List bF×cZ×Int) (λ(⟨acc,s,m⟩:List bF×cZ×Int)=>aN [(2,.clo 173 [.ptr (.b 0) 1 0 []]),(3,.rp 26 (aj p)),(4,.rp 28 (bY b)),(7,.ptr (.s 7 0) 1 0 []),(9,.own (.s 58 0) acc.length 0 acc.length none)] [(.b 0,uP m),(.s 7 0,.cells ⟨62,1,λ_=>encS s,0⟩),(.s 58 0,dn 122 aT dG acc)]) (λ(⟨acc,s,m⟩:List bF×cZ×Int)=>oh s/\(0<=m/\m<6)/\acc.length<=b.steps.toNat/\acc++(pI p b.fuel (b.steps.toNat - acc.length) s m).1=(pI p b.fuel b.steps.toNat (dJ p b.fuel).1 n).1/\(pI p b.fuel (b.steps.toNat - acc.length) s m).2=(pI p b.fuel b.steps.toNat (dJ p b.fuel).1 n).2) (λ(⟨acc,s,m⟩:List bF×cZ×Int)=>b.steps.toNat - acc.length) ?_ ?_
 ·refine ⟨⟨[],(dJ p b.fuel).1,n⟩,?_,?_⟩;{exact ⟨BL,hn,abq _,rfl,rfl⟩};refine eX ⟨cq,cq,cq,cq,⟨rfl,_,rfl,iK⟩,tt⟩ ⟨obs rfl,obs rfl,⟨λ_ _=>rfl,.inr ⟨rfl,122,_,rfl,by decide⟩⟩,tt⟩
 rintro ⟨acc,s,m⟩ ⟨u,hm,w,a,c⟩;refine sq (sq (rg [] rfl ?_));refine cd rfl (λj=>?_) (λj=>?_);{(have g:acc.length<b.steps.toNat:=by simp [-List.getD_eq_getElem?_getD]at j;omega);(have hk:b.steps.toNat - acc.length=(b.steps.toNat - (acc.length+1))+1:=by omega);refine sk (bk (sq (rgs [CG.pure (.tup [dB (aF p s),.int (mM p s)])] rfl ?_ ?_)));{have d:=JH p s u;exact au};refine sq (sq (rg [] rfl ?_));refine cd rfl (λf=>?_) (λf=>?_);{have i:aF p s=[]:=ad8 (by simp [-List.getD_eq_getElem?_getD]at f;simpa using f);refine xt (sq (rg [] rfl ?_));refine rX ?_;rw [hk,pI,aa2 i]at a c;simp only [adY]at a;rw [<- a,<- c];refine aJ hT [(.s 58 0,acc.length)] (ts:=[(6,dB acc)]) (l:=[dB acc]) ⟨⟨_,rfl,abd _⟩,tt⟩ ⟨⟨rfl,_,rfl,?_⟩,tt⟩ ⟨obs rfl,tt⟩ rfl rfl rfl;exact iw rfl rfl rfl (λh=>by cases h) (by simp [dW,aS]) (λq d=>by rw [ada];exact ⟨rfl,vU.refl _⟩)};(have i:¬ aF p s=[]:=λe=>by rw [e]at f;cases f);obtain ⟨r,o⟩:∃ r,zh (aF p s) 6 m=r:=⟨_,rfl⟩;(have t:0<=r.2/\r.2<6:=by rw [<- o];exact SQ _ _ _ hm);refine sk (sq (rgs [⟨true,[.b 0],.tup [aT r.1,.bool true],[uP r.2]⟩] rfl ?_ ?_));{have d:=UY acc.length (aF p s) m hm i (λx hx=>XK hx);rw [o]at d;have y:jm [.b 0] [uP m]:=⟨λ_ _=>rfl,tt⟩;have a0:jm (bs 1) [uP r.2]:=⟨λ_ _=>rfl,tt⟩;exact au};refine sq (sq (rg [] rfl ?_));refine cd rfl (λv=>?_) (λv=>?_);{cases v};refine sk (sq ?_);refine wF [(.s 12 0,1)] ⟨sF,tt⟩ [(2,.clo 173 [.ptr (.b 0) 1 0 []]),(3,.rp 26 (aj p)),(4,.rp 28 (bY b)),(7,.ptr (.s 7 0) 1 0 []),(9,.own (.s 58 0) acc.length 0 acc.length none),(12,.rp 122 (aT r.1))] [(.b 0,uP r.2),(.s 7 0,.cells ⟨62,1,λ_=>encS s,0⟩),(.s 58 0,dn 122 aT dG acc)] ⟨cq,cq,cq,cq,cq,⟨rfl,_,rfl,bM rfl rfl (by decide) rfl (GN _ _) rfl⟩,tt⟩ ⟨obs rfl,obs rfl,dL (nO _) rfl rfl rfl rfl rfl (λq d=>rfl),tt⟩ (rgs [CG.pure (.tup [encS (pY p s r.1 b.fuel).1,iJ (pY p s r.1 b.fuel).2.1,.int (pY p s r.1 b.fuel).2.2])] rfl ?_ ?_);{have d:=abh p s r.1 b.fuel u;exact au};refine rgs [] rfl ?_ ?_;{have k:(T 122).bytes=16:=rfl;simp [ay,under,k];omega};refine ⟨⟨acc++[r.1],(pY p s r.1 b.fuel).1,r.2⟩,?_,?_,?_⟩;{rw [hk,pI,xw i,o]at a c;refine ⟨Y7 u,t,by rw [dA];omega,?_,?_⟩;{rw [<- a,dA,adQ];rfl};rw [<- c,dA]};{refine eX ⟨cq,cq,cq,cq,⟨rfl,_,rfl,ah (by rw [dA])⟩,tt⟩ ⟨obs rfl,obs rfl,dL (nO _) rfl rfl (by rw [dA]) rfl rfl (DI (z:=(T 122).zero) rfl rfl (λq d=>rfl)),tt⟩};(show b.steps.toNat - (acc++[r.1]).length<b.steps.toNat - acc.length;rw [dA];omega)};(have g:acc.length=b.steps.toNat:=by simp [-List.getD_eq_getElem?_getD]at j;omega);refine xt (sq (rg [] rfl ?_));refine rX ?_;rw [g,Nat.sub_self,pI]at a c;simp only [adY]at a;rw [<- a,<- c];refine aJ hT [(.s 58 0,acc.length)] (ts:=[(6,dB acc)]) (l:=[dB acc]) ⟨⟨_,rfl,abd _⟩,tt⟩ ⟨⟨rfl,_,rfl,?_⟩,tt⟩ ⟨obs rfl,tt⟩ rfl rfl rfl;exact iw rfl rfl rfl (λh=>by cases h) (by simp [dW,aS]) (λq d=>by rw [ada];exact ⟨rfl,vU.refl _⟩)
def uf (p:ak) (b:dO):List bF:=if dD p 0 b=0 then (pI p b.fuel b.steps.toNat (dJ p b.fuel).1 5).1 else []
theorem Og (p:ak) (b:dO):AC Tryz.prog T aH 118 [aj p,bY b] [] (.tup [dB (uf p b),.int (dD p 0 b)]) []:=by
 refine aX Tryz.func118 ?_;refine sg rfl (sq (sq ?_));refine WP.ent (st':=aN [(2,.rp 26 (aj p)),(3,.rp 28 (bY b))] []) (em [(.s 2 0,1),(.s 3 0,1)] ⟨sF,sF,tt⟩ ⟨rq,rq,tt⟩ trivial) ?_;refine rgs [CG.pure (.int (dD p 0 b))] rfl ?_ ?_
 ·have d:=ZO p 0 b;exact au
 refine sg rfl (cd rfl (λc=>?_) (λc=>?_))
 ·(have a:dD p 0 b≠0:=by simpa using c);refine sg rfl (rX ?_);refine aJ hT [] (ts:=[(4,dB (uf p b)),(5,.int (dD p 0 b))]) (l:=[dB (uf p b),.int (dD p 0 b)]) trivial ⟨⟨rfl,_,rfl,?_⟩,cq,tt⟩ trivial rfl rfl rfl;rw [uf,xw a];exact eP (by decide)
 (have a:dD p 0 b=0:=by simpa using c);have hb:=(YM a).2.2;refine sk (sq (rg [] rfl ?_));refine sq (wE [(2,.rp 26 (aj p)),(3,.rp 28 (bY b)),(7,.ptr (.s 7 0) 1 0 [])] [(.s 7 0,uP 5)] ⟨obs rfl,tt⟩ ?_);refine rgs [⟨true,[.s 7 0],dB (uf p b),[uP (pI p b.fuel b.steps.toNat (dJ p b.fuel).1 5).2]⟩] rfl ?_ ?_;{have d:=PU p b 5 (by omega) hb.1;(have e:uf p b=(pI p b.fuel b.steps.toNat (dJ p b.fuel).1 5).1:=by rw [uf,aa2 a]);rw [<- e]at d;have f:ren (sig [.s 7 0] 0) (aj p)=aj p:=ug _ p;have g:ren (sig [.s 7 0] 0) (bY b)=bY b:=bH (λq=>by match q with | 0 | 1 | 2 | q+3=>rfl);rw [<- f,<- g]at d;have h:jm [.s 7 0] [uP 5]:=⟨λ_ _=>rfl,tt⟩;have i:jm (bs 1) [uP (pI p b.fuel b.steps.toNat (dJ p b.fuel).1 5).2]:=⟨λ_ _=>rfl,tt⟩;exact au};exact WP.ret (aJ hT [] (ts:=[(4,dB (uf p b)),(5,.int (dD p 0 b))]) (l:=[dB (uf p b),.int (dD p 0 b)]) trivial ⟨cq,⟨rfl,_,rfl,ah (by rw [a])⟩,tt⟩ trivial rfl rfl rfl)
theorem PL (f:Bool) (l:List bF) (n:Nat) (a:n+1<4294967296):AC Tryz.prog T aH 100 [.row 122 f (n+1) (λi=>aT (l.getD i dG))] [] (.own (.b 0) (n+1) 0 (n+1) none) [.cells ⟨122,n+1,λi=>aT (l.getD i dG),0⟩]:=by
 refine aX Tryz.func100 ?_;refine sg rfl (sq (sq (rg [] rfl ?_)));refine cd rfl (λa=>?_) (λa=>?_)
 ·cases a
 refine sk (sq (rgs [] rfl ?_ ?_));{have c:(T 122).bytes=16:=rfl;simp [ay,under,c];omega};refine rX ?_;refine zY hT [] [.s 7 0] (ts:=[(2,.own (.b 0) (n+1) 0 (n+1) none)]) (l:=[.own (.b 0) (n+1) 0 (n+1) none]) trivial rfl ⟨⟨_,.own (.s 7 0) (n+1) 0 (n+1) none,rfl,ah (by simp),rfl,rfl⟩,tt⟩ ⟨.inl ⟨_,.cells ⟨122,n+1,λi=>aT (l.getD i dG),0⟩,rfl,⟨λi=>aT (l.getD i dG),0,?_,abd _,abq _,abq _,λi hi=>ah ?_⟩,λ_ _=>rfl,?_⟩,tt⟩ rfl rfl;{simp};{exact (uo (abq _) hi).trans rfl};show Ob.cells ⟨122,n+1,λi=>aT (l.getD i dG),0⟩=Ob.cells ⟨122,n+1,λi=>ren _ (aT (l.getD i dG)),0⟩;simp only [GN]
theorem PN (f:Bool):AC Tryz.prog T aH 100 [.row 122 f 0 (λi=>aT (([]:List bF).getD i dG))] [] (.own (.b 0) 0 0 0 none) [dn 122 aT dG []]:=by
 refine aX Tryz.func100 ?_;refine sg rfl (sq (sq ?_));refine WP.nilreg (l:=[_]) (gs:=[]) hT hE rfl rfl trivial rfl rfl rfl rfl rfl rfl (λb=>?_);refine cd rfl (λa=>?_) (λa=>?_)
 ·exact sg rfl (WP.ret (zY hT [] [.s 7 0] (ts:=[(2,.own (.b 0) 0 0 0 none)]) (l:=[.own (.b 0) 0 0 0 none]) trivial rfl ⟨⟨_,.own (.s 7 0) 0 0 0 none,rfl,VW,rfl,rfl⟩,tt⟩ ⟨.inr ⟨rfl,122,_,rfl,Nat.lt_of_lt_of_eq (by decide) (show 2=(T 122).size from rfl)⟩,tt⟩ rfl rfl))
 refine sk (sq (rgs [CG.mine,CG.nop] rfl ?_ ?_));{simp [ay,under]};exact WP.ret (zY hT [] [.s 5 0] (ts:=[(2,.own (.b 0) 0 0 0 none)]) (l:=[.own (.b 0) 0 0 0 none]) trivial rfl ⟨⟨_,.own (.s 5 0) 0 0 0 none,rfl,ah rfl,rfl,rfl⟩,tt⟩ ⟨.inl ⟨_,dn 122 aT dG [],rfl,⟨_,_,rfl,abd _,abq _,abq _,λi hi=>absurd hi (Nat.not_lt_zero _)⟩,λ_ _=>rfl,(jy (GN _)).symm⟩,tt⟩ rfl rfl)
theorem RJ (l:List bF) (c:l.length<4294967296):AC Tryz.prog T aH 100 [dB l] [] (dB l) []:=by
 have h:AC Tryz.prog T aH 100 [dB l] [] (.own (.b 0) l.length 0 l.length none) [dn 122 aT dG l]:=by cases l with| nil=>exact PN false| cons a r=>exact PL false (a::r) r.length (by simpa using c)
 exact AC.ent h (xu.mk (ms:=[]) (ts:=[(0,dB l)]) hT [(.b 0,l.length)] ⟨⟨_,rfl,abd _⟩,tt⟩ ⟨⟨rfl,_,rfl,iw rfl rfl rfl (λh=>by cases h) (by simp [dW,aS]) (λj d=>by rw [ada];exact ⟨rfl,vU.refl _⟩)⟩,tt⟩ trivial rfl)
theorem VZ (l:List bF):AC Tryz.prog T aH 144 [dB l] [] (.row 122 true l.length (λi=>aT (l.getD i dG))) []:=by
 refine aX Tryz.func144 ?_;refine sg rfl (sg rfl ?_);refine rX ?_;refine aJ hT [] (ts:=[(2,.row 122 true l.length (λi=>aT (l.getD i dG)))]) (l:=[.row 122 true l.length (λi=>aT (l.getD i dG))]) trivial ⟨⟨rfl,_,rfl,?_⟩,tt⟩ trivial rfl rfl rfl;refine ah ?_;simp [TG,qC]
structure xg where
 picks:List bF
 cut:Bool
 rep:Bool
 deriving DecidableEq
def vZ:xg:=⟨[],false,false⟩
def uz (x:xg):AV:=bC 45 [dB x.picks,.bool x.cut,.bool x.rep]
theorem Ei (ids:List Id) (x:xg):fZ ids (uz x)=true:=rfl
abbrev bD (l:List xg):Ob:=dn 45 uz vZ l
structure TS where
 runs:List xg
 ends:List cZ
 spun:Bool
 short:Bool
 over:Bool
theorem Ce (a:Id->Id) (b:dO):ren a (bY b)=bY b:=bH (λq=>by match q with | 0 | 1 | 2 | q+3=>rfl)
theorem gK (a:Id->Id) (x:xg):ren a (uz x)=uz x:=bH (λq=>by match q with | 0 | 1 | 2 | q+3=>rfl)
def nI (z:Bool) (s:cZ):Nat->Bool
 | 0=>z
 | k+1=>nI z s k||(s.gos.getD k go0).status==5
theorem RU (l:List bF) (x:bF) (j:Nat) (c:j<l.length+1) {g:Nat->AV} (hg:g 0=aT x):oC l.length 1 (λi=>aT (l.getD i dG)) g j=aT ((l++[x]).getD j dG):=by
 show (bif Nat.beq j l.length then g 0 else aT (l.getD j dG))=_;cases a:Nat.beq j l.length with| true=>have:=abA a;subst this;simp [aae,hg]| false=>(have b:j≠l.length:=λe=>by subst e;simp at a);simp only [adB];simp only [aae,acP (show j<l.length by omega)]
section
variable {P:Program} {T:Nat->TI} {N:Nat}
end
abbrev abD (l:List xg):AV:=rowP 45 uz vZ l
def pF (f:Bool) (l:List Qc):AV := .row 134 f l.length (λi=>vS (l.getD i rQ))
def Ze (x y:Qc):Bool:=x.kind==y.kind&&x.num==y.num&&(x.wr||y.wr)
def lS (a b:List Qc):Bool:=a.any λx=>b.any λy=>Ze x y
theorem KD {a b:List Qc} {i k:Nat} (hi:i<a.length) (hk:k<b.length) (h:Ze (a.getD i rQ) (b.getD k rQ)=true):lS a b=true:=by
 simp only [lS,aeM];exact ⟨a[i],acr hi,b[k],acr hk,by simpa [aae,hi,hk]using h⟩
theorem PS {a b:List Qc} (h:∀ i,i<a.length -> ∀ k,k<b.length->Ze (a.getD i rQ) (b.getD k rQ)=false):lS a b=false:=by
 simp only [lS,List.any_eq_false,aeM,not_exists,not_and];intro x hx y c;obtain ⟨i,hi,rfl⟩:=aeA hx;obtain ⟨k,hk,rfl⟩:=aeA c;have:=h i hi k hk;simp [aae,hi,hk]at this;simp [this]
theorem Zd (f g:Bool) (a b:List Qc):AC Tryz.prog T aH 123 [pF f a,pF g b] [] (.bool (lS a b)) []:=by
 refine aX Tryz.func123 ?_;refine WP.rowlen 0 rfl (λn=>?_);refine WP.rowlen 1 rfl (λo=>?_);refine sg rfl (sq (sq (rg [] rfl ?_)));refine bk (WP.loop (α:=Nat) (λi=>aN [(1,pF g b),(9,pF f a),(10,.int a.length),(11,.int i)] []) (λi=>i<=a.length /\ ∀ p,p<i -> ∀ q,q<b.length->Ze (a.getD p rQ) (b.getD q rQ)=false) (λi=>a.length - i) ?_ ?_)
 ·refine ⟨0,?_,?_⟩;{exact ⟨abq _,λp hp=>by omega⟩};refine eX cX trivial
 rintro i ⟨hi,hn⟩;refine sg rfl (sq ?_);refine cd rfl (λl=>?_) (λl=>?_);{(have c:i<a.length:=by simpa using l);refine sk (sq (bk (sq (rgs [] rfl ?_ ?_))));{simp [ay,under];omega};refine sg rfl (bk ?_);refine WP.loop (α:=Nat) (λk=>aN [(1,pF g b),(6,.ptr (.s 6 0) 1 0 []),(9,pF f a),(10,.int a.length),(11,.int i),(15,pF g b),(16,.int b.length),(17,.int k)] [(.s 6 0,.cells ⟨134,1,λ_=>vS (a.getD i rQ),0⟩)]) (λk=>k<=b.length /\ ∀ q,q<k->Ze (a.getD i rQ) (b.getD q rQ)=false) (λk=>b.length - k) ?_ ?_;{refine ⟨0,?_,?_⟩;{exact ⟨abq _,λp hp=>by omega⟩};refine eX cX ⟨obs rfl,tt⟩};rintro k ⟨hk,j⟩;refine sg rfl (sq ?_);refine cd rfl (λm=>?_) (λm=>?_);{(have d:k<b.length:=by simpa using m);refine sk (sq (bk (sq (rgs [] rfl ?_ ?_))));{simp [ay,under];omega};refine sg rfl (cd rfl (λe=>?_) (λe=>?_));{(have hc:Ze (a.getD i rQ) (b.getD k rQ)=true:=by simp only [fG,band]at e;exact e);exact sg rfl (WP.ret (fin1 hT (by rfl) (KD c d hc).symm))};(have hc:Ze (a.getD i rQ) (b.getD k rQ)=false:=by simp only [fG,band]at e;exact e);refine sk (rg [] rfl ?_);refine ⟨k+1,?_,?_,?_⟩;{refine ⟨d,λq r=>?_⟩;rcases adv q k with h | h;{exact j q h};(obtain rfl:q=k:=by omega);exact hc};{refine eX cX ⟨obs rfl,tt⟩};(try simp only []);first | omega | grind};(have d:k=b.length:=by simp at m;omega);subst d;refine xt (rg [] rfl ?_);refine ⟨i+1,?_,?_,?_⟩;{refine ⟨c,λp hp=>?_⟩;rcases adv p i with h | h;{exact hn p h};(obtain rfl:p=i:=by omega);exact j};{refine eX cX trivial};(try simp only []);first | omega | grind};(have c:i=a.length:=by simp at l;omega);subst c;refine xt (sq (rg [] rfl ?_));exact WP.ret (fin1 hT rfl (PS hn).symm)
theorem Vf (f g:Bool) (a b:List Qc):AC Tryz.prog T aH 126 [pF f a,pF g b] [] (.bool (lS a b)) []:=by
 refine aX Tryz.func126 ?_;refine WP.rowlen 0 rfl (λn=>?_);refine WP.rowlen 1 rfl (λo=>?_);refine sg rfl (sq (sq (rg [] rfl ?_)));refine bk (WP.loop (α:=Nat) (λi=>aN [(0,pF f a),(1,pF g b),(5,.int i)] []) (λi=>i<=a.length /\ ∀ p,p<i -> ∀ q,q<b.length->Ze (a.getD p rQ) (b.getD q rQ)=false) (λi=>a.length - i) ?_ ?_)
 ·refine ⟨0,?_,?_⟩;{exact ⟨abq _,λp hp=>by omega⟩};refine eX cX trivial
 rintro i ⟨hi,hn⟩;refine sq (sq (rg [] rfl ?_));refine cd rfl (λl=>?_) (λl=>?_);{(have c:i<a.length:=by simpa using l);refine sk (sq (bk (sq (rg [] rfl ?_))));refine bk (WP.loop (α:=Nat) (λk=>aN [(0,pF f a),(1,pF g b),(5,.int i),(6,.int k)] []) (λk=>k<=b.length /\ ∀ q,q<k->Ze (a.getD i rQ) (b.getD q rQ)=false) (λk=>b.length - k) ?_ ?_);{refine ⟨0,?_,?_⟩;{exact ⟨abq _,λp hp=>by omega⟩};refine eX cX trivial};rintro k ⟨hk,j⟩;refine sq (sq (rg [] rfl ?_));refine cd rfl (λm=>?_) (λm=>?_);{(have d:k<b.length:=by simpa using m);refine sk (sq (bk (sq (drs [] rfl ?_ ?_))));{simp [ay,under];exact ⟨⟨⟨⟨⟨⟨c,d⟩,λ_=>c⟩,λ_=>d⟩,λ_ _=>c⟩,λ_ _ _=>d⟩,λp q r=>⟨⟨p,q⟩,r⟩⟩};refine cd rfl (λe=>?_) (λe=>?_);{(have hc:Ze (a.getD i rQ) (b.getD k rQ)=true:=by simp only [fG,band]at e;exact e);exact sg rfl (WP.ret (fin1 hT (by rfl) (KD c d hc).symm))};(have hc:Ze (a.getD i rQ) (b.getD k rQ)=false:=by simp only [fG,band]at e;exact e);refine sk (rg [] rfl ?_);refine ⟨k+1,?_,?_,?_⟩;{refine ⟨d,λq s=>?_⟩;rcases adv q k with h | h;{exact j q h};(obtain rfl:q=k:=by omega);exact hc};{refine eX cX trivial};(try simp only []);first | omega | grind};(have d:k=b.length:=by simp at m;omega);subst d;refine xt (rg [] rfl ?_);refine ⟨i+1,?_,?_,?_⟩;{refine ⟨c,λp hp=>?_⟩;rcases adv p i with h | h;{exact hn p h};(obtain rfl:p=i:=by omega);exact j};{refine eX cX trivial};(try simp only []);first | omega | grind};(have c:i=a.length:=by simp at l;omega);subst c;refine xt (sq (rg [] rfl ?_));exact WP.ret (fin1 hT rfl (PS hn).symm)
theorem KC {m:Id->Option Ob} {F:Id->Nat} (l:List BT):Conv m F T (rowP 134 fJ jS l) (pF false (l.map (·.t))):=by
 unfold pF;rw [ad5];refine wW (λh=>h) (λj a=>?_);simp [fJ,aae,a]
def vV (p:ak) (s:cZ) (g:Int):Int:=if mM p s≠0 then mM p s else if g<0\/6<=g then 1 else if mG (goI s g)=false then 9 else 0
def dX (p:ak) (s:cZ) (g:Int):List Qc:=if vV p s g=0 then (dM p s g).map (·.t)else []
def oK (p:ak) (s:cZ) (z:Nat) (g:Int):Nat->Nat
 | 0=>0
 | k+1=>if z.testBit k=false\/(k:Int)=g then oK p s z g k else if lS (dX p s k) (dX p s g)=false then oK p s z g k ||| 2 ^ k else oK p s z g k
def yN (p:ak) (s:cZ) (z:Nat) (g:Int):Nat:=oK p s z g 6
theorem zV (p:ak) (s:cZ) (z:Nat) (g:Int):∀ k,oK p s z g k<2 ^ k
 | 0=>Nat.zero_lt_one
 | k+1=>by have h:=zV p s z g k;have a:2 ^ k<2 ^ (k+1):=Nat.pow_lt_pow_right (by decide) (by omega);rw [oK];split;{omega};split;{exact Nat.or_lt_two_pow (by omega) a};omega
structure SS where
 runs:List xg
 given:Nat
 over:Bool
 short:Bool
def SS.cnt (t:SS):Nat:=t.runs.length+t.given
def iO (b:dO) (t:SS):SS:={ t with over:=t.over||decide ((t.cnt:Int)>=b.runs) }
def pG (b:dO) (t:SS) (picks:List bF) (cut:Bool):SS:=if (iO b t).over=true then iO b t else { iO b t with runs:=t.runs++[⟨picks,cut,false⟩],short:=t.short||cut}
def Gv (b:dO) (t:SS):SS:=if (iO b t).over=true then iO b t else { iO b t with given:=t.given+1}
abbrev eU (t:SS) (s:cZ):SS:={ t with short:=t.short||nI false s 6}
def kQ (l:List bF) (z:Nat):Bool:=l.any λx => !z.testBit x.go.toNat
abbrev vJ (f:bF->Nat->SS->SS) (z:Nat) (a:SS×Nat) (x:bF):SS×Nat:=if z.testBit x.go.toNat=true\/a.1.over=true then a else (f x a.2 a.1,a.2 ||| 2 ^ x.go.toNat)
def jO (p:ak) (b:dO):Nat->cZ->List bF->Nat->SS->SS
 | 0,s,picks,z,t=>if aF p s=[]then pG b (eU t s) picks false else if kQ (aF p s) z=false then Gv b (eU t s)else pG b (eU t s) picks true
 | k+1,s,picks,z,t=>if aF p s=[]then pG b (eU t s) picks false else if kQ (aF p s) z=false then Gv b (eU t s)else
  ((aF p s).foldl (vJ (λx g t=>jO p b k (pY p s x b.fuel).1 (picks++[x]) (yN p s g x.go) t) z) (eU t s,z)).1
def xC:SS:=⟨[],0,false,false⟩
def fP (p:ak) (b:dO):SS:=if dD p 0 b=0 then jO p b b.steps.toNat (dJ p b.fuel).1 [] 0 xC else xC
structure SLaw (b:dO) (t u:SS):Prop where
 le:t.cnt<=u.cnt
 most:(t.cnt:Int)<=b.runs->(u.cnt:Int)<=b.runs
theorem SLaw.refl {b:dO} (t:SS):SLaw b t t:=⟨abd _,λh=>h⟩
theorem SLaw.trans {b:dO} {t u v:SS} (a:SLaw b t u) (c:SLaw b u v):SLaw b t v:=⟨aem a.le c.le,λh=>c.most (a.most h)⟩
structure Jm (b:dO) (t u:SS):Prop extends SLaw b t u where
 new:(u.over=true/\(u.cnt:Int)>=b.runs)\/t.cnt<u.cnt
theorem KQ {b:dO} {t:SS} {picks:List bF} {c:Bool} (h:t.over=false):Jm b t (pG b t picks c):=by
 unfold pG iO;by_cases a:(t.cnt:Int)>=b.runs
 ·simp only [h,aeB,adx a,ad9];exact ⟨⟨abd _,λh=>h⟩,.inl ⟨rfl,a⟩⟩
 simp only [h,aeB,acB a];(have e:SS.cnt { runs:=t.runs++[⟨picks,c,false⟩],given:=t.given,over:=false,short:=t.short||c}=t.cnt+1:=by simp [SS.cnt];omega);exact ⟨⟨by simp only [adJ,adM];omega,λ_=>by simp only [adJ,adM];omega⟩,.inr (by simp only [adJ,adM];omega)⟩
theorem SK {b:dO} {t:SS} (h:t.over=false):Jm b t (Gv b t):=by
 unfold Gv iO;by_cases a:(t.cnt:Int)>=b.runs
 ·simp only [h,aeB,adx a,ad9];exact ⟨⟨abd _,λh=>h⟩,.inl ⟨rfl,a⟩⟩
 simp only [h,aeB,acB a];(have e:SS.cnt { runs:=t.runs,given:=t.given+1,over:=false,short:=t.short}=t.cnt+1:=by simp [SS.cnt];omega);exact ⟨⟨by simp only [adJ,adM];omega,λ_=>by simp only [adJ,adM];omega⟩,.inr (by simp only [adJ,adM];omega)⟩
theorem Pg {b:dO} {f:bF->Nat->SS->SS} {z:Nat} (hf:∀ x g t,t.over=false->Jm b t (f x g t)):∀ (l:List bF) (a:SS×Nat),SLaw b a.1 (l.foldl (vJ f z) a).1/\(a.1.over=true->(l.foldl (vJ f z) a).1=a.1)
 | [],a=>⟨SLaw.refl _,λ_=>rfl⟩
 | x::r,a=>by rw [aeX];have c:=Pg (z:=z) hf r (vJ f z a x);by_cases h:z.testBit x.go.toNat=true\/a.1.over=true;{have e:vJ f z a x=a:=aa2 h;rw [e]at c ⊢;exact c};have e:vJ f z a x=(f x a.2 a.1,a.2 ||| 2 ^ x.go.toNat):=xw h;rw [e]at c ⊢;(have d:a.1.over=false:=by simpa using λe=>h (.inr e));exact ⟨(hf x a.2 a.1 d).toSLaw.trans c.1,λe=>by rw [d]at e;cases e⟩
theorem O9 {b:dO} {f:bF->Nat->SS->SS} {z:Nat} (hf:∀ x g t,t.over=false->Jm b t (f x g t)):∀ (l:List bF) (a:SS×Nat),a.1.over=false->kQ l z=true->Jm b a.1 (l.foldl (vJ f z) a).1
 | [],a,_,h=>by simp [kQ]at h
 | x::r,a,ho,h=>by rw [aeX];by_cases i:z.testBit x.go.toNat=true;{have e:vJ f z a x=a:=aa2 (.inl i);rw [e];exact O9 hf r a ho (by simpa [kQ,i]using h)};have e:vJ f z a x=(f x a.2 a.1,a.2 ||| 2 ^ x.go.toNat):=xw (by simp [i,ho]);rw [e];have j:=hf x a.2 a.1 ho;have d:=Pg (z:=z) hf r (f x a.2 a.1,a.2 ||| 2 ^ x.go.toNat);refine ⟨j.toSLaw.trans d.1,?_⟩;rcases j.new with c | c;{rw [d.2 c.1];exact .inl c};exact .inr (adG c d.1.le)
theorem ZJ {p:ak} {b:dO}:∀ (k:Nat) (s:cZ) (picks:List bF) (z:Nat) (t:SS),t.over=false->Jm b t (jO p b k s picks z t):=by
 intro k;induction k with| zero=>intro s picks z t a;have e:∀ u,Jm b (eU t s) u->Jm b t u:=λu h=>⟨⟨h.le,h.most⟩,h.new⟩;rw [jO];split;{exact e _ (KQ a)};split;{exact e _ (SK a)};exact e _ (KQ a)| succ k d=>intro s picks z t a;have e:∀ u,Jm b (eU t s) u->Jm b t u:=λu h=>⟨⟨h.le,h.most⟩,h.new⟩;rw [jO];split;{exact e _ (KQ a)};split;{exact e _ (SK a)};rename_i i c;exact e _ (O9 (f:=λx g t=>jO p b k (pY p s x b.fuel).1 (picks++[x]) (yN p s g x.go) t) (z:=z) (λx g t h=>d _ _ _ _ h) _ (eU t s,z) a (by simpa using c))
abbrev oN (z:Nat):AV := .v (.int .u64 (z:Int))
theorem KL {a:Nat} (h:a<2 ^ 64):(BitVec.ofInt IntKind.u64.bits (a:Int)).toNat=a:=by
 show (BitVec.ofInt 64 (a:Int)).toNat=a;rw [BitVec.toNat_ofInt];omega
theorem WE {a:Nat} (h:a<2 ^ 64):IntKind.u64.wrap (a:Int)=a:=by rw [IntKind.wrap_u64];omega
theorem aaX {a b:Nat} (c:a<2 ^ 64) (hb:b<2 ^ 64):IntKind.u64.wrap ↑(BitVec.ofInt IntKind.u64.bits (a:Int) &&& BitVec.ofInt IntKind.u64.bits (b:Int)).toNat=((a &&& b:Nat):Int):=by
 rw [BitVec.toNat_and,KL c,KL hb];exact WE (Nat.and_lt_two_pow a hb)
theorem abQ {a b:Nat} (c:a<2 ^ 64) (hb:b<2 ^ 64):IntKind.u64.wrap ↑(BitVec.ofInt IntKind.u64.bits (a:Int) ||| BitVec.ofInt IntKind.u64.bits (b:Int)).toNat=((a ||| b:Nat):Int):=by
 rw [BitVec.toNat_or,KL c,KL hb];exact WE (Nat.or_lt_two_pow c hb)
theorem acS (m i:Nat):((m:Int).fdiv (2 ^ i))=((m >>> i:Nat):Int):=by
 rw [Nat.shiftRight_eq_div_pow,aeH _ (by exact Int.pow_nonneg (by decide))];simp
theorem ach (m i:Nat):(m >>> i) &&& 1=if m.testBit i=true then 1 else 0:=by
 rw [Nat.testBit,Nat.and_comm];have h:=Nat.and_one_is_mod (m >>> i);have b:1 &&& m >>> i=m >>> i &&& 1:=Nat.and_comm ..;rw [b,h];rcases Nat.mod_two_eq_zero_or_one (m >>> i)with a | a <;> simp [a]
theorem shN (i:Nat) (h:i<64):min ((i:Int).toNat) IntKind.u64.bits=i:=by simp only [adu];exact aev (by show i<=64;omega)
theorem Ri (z g:Nat) (d:z<64) (hg:g<6):AC Tryz.prog T aH 78 [oN z,.int g] [] (.bool (z.testBit g)) []:=by
 refine aX Tryz.func78 ?_;refine sg rfl (sg rfl ?_);refine rX ?_;refine fin1 hT (by rfl) ?_;rw [shN g (by omega),acS];have c:z >>> g<2 ^ 64:=aeu (Nat.shiftRight_le z g) (by omega);have a:=aaX (b:=1) c (by decide);rw [show ((1:Nat):Int)=1 from rfl]at a;rw [a,ach];cases z.testBit g <;> rfl
theorem XT {z g:Nat} (a:z<64) (hg:g<6):z ||| 2 ^ g<64:=Nat.or_lt_two_pow (n:=6) a (Nat.pow_lt_pow_right (by decide) hg)
theorem Sm (z g:Nat) (b:z<64) (hg:g<6):AC Tryz.prog T aH 76 [oN z,.int g] [] (oN (z ||| 2 ^ g)) []:=by
 refine aX Tryz.func76 ?_;refine sg rfl (sg rfl ?_);refine rX ?_;refine aJ hT [] (ts:=[(4,oN (z ||| 2 ^ g))]) (l:=[oN (z ||| 2 ^ g)]) trivial ⟨⟨rfl,_,rfl,ah (ac8 (λn=>AV.v (.int .u64 n)) ?_)⟩,tt⟩ trivial rfl rfl rfl;have hp:2 ^ g<2 ^ 64:=Nat.pow_lt_pow_right (by decide) (by omega);rw [shN g (by omega)];have a:(1:Int)*2 ^ g=((2 ^ g:Nat):Int):=by simp
 rw [a,WE hp,abQ (by omega) hp]
theorem aah (p:ak) (s:cZ) (g:Int) (e:oh s):AC Tryz.prog T aH 130 [aj p,encS s,.int g] [] (.int (vV p s g)) []:=by
 refine aX Tryz.func130 ?_;refine sg rfl (sq ?_);refine WP.ent (st':=aN [(3,.rp 26 (aj p)),(4,.rp 62 (encS s)),(2,.int g),(6,.int 0)] []) (em [(.s 3 0,1),(.s 4 0,1)] ⟨sF,sF,tt⟩ ⟨rq,rq,cq,cq,tt⟩ trivial) ?_;refine rgs [CG.pure (.int (mM p s))] rfl ?_ ?_
 ·have f:=IY p s e;exact au
 refine sq (bk (sq (rg [] rfl ?_)));refine cd rfl (λc=>?_) (λc=>?_)
 ·(have b:mM p s≠0:=by simpa using c);exact sg rfl (WP.ret (bf hT (by rfl) (by rw [vV,aa2 b])))
 (have b:¬ mM p s≠0:=by simpa using c);refine sg rfl (cd rfl (λa=>?_) (λa=>?_));{(have hg:g<0\/6<=g:=by simp only [fG]at a;simpa using a);exact sg rfl (WP.ret (bf hT (by rfl) (by rw [vV,xw b,aa2 hg])))};(have hg:¬ (g<0\/6<=g):=by simp only [fG]at a;simpa using a);refine sq (rgs [CG.pure (.bool (mG (goI s g)))] rfl ?_ ?_);{have f:=Gt s g (by omega);exact au};refine cd rfl (λd=>?_) (λd=>?_);{(have hl:mG (goI s g)=false:=by simpa using d);exact sg rfl (WP.ret (bf hT (by rfl) (by rw [vV,xw b,xw hg,aa2 hl])))};(have hl:¬ mG (goI s g)=false:=by simpa using d);refine sk (sq (rg [] rfl ?_));exact WP.ret (bf hT (by rfl) (by rw [vV,xw b,xw hg,xw hl]))
theorem QL {p:ak} {s:cZ} {g:Int} (d:oh s) (h:vV p s g=0):dZ p s g:=by
 unfold vV at h;by_cases a:mM p s≠0
 ·rw [aa2 a]at h;exact absurd h a
 rw [xw a]at h;by_cases b:g<0\/6<=g;{rw [aa2 b]at h;cases h};rw [xw b]at h;by_cases c:mG (goI s g)=false;{rw [aa2 c]at h;cases h};exact ⟨d,aci (by simpa using a),by simpa using c,by omega⟩
theorem Ju (p:ak) (s:cZ) (g:Int) (c:oh s):AC Tryz.prog T aH 122 [aj p,encS s,.int g] [] (.tup [pF false (dX p s g),.int (vV p s g)]) []:=by
 refine aX Tryz.func122 ?_;refine sg rfl (sq (sq ?_));refine WP.ent (st':=aN [(3,.rp 26 (aj p)),(4,.rp 62 (encS s)),(2,.int g)] []) (em [(.s 3 0,1),(.s 4 0,1)] ⟨sF,sF,tt⟩ ⟨rq,rq,cq,tt⟩ trivial) ?_;refine rgs [CG.pure (.int (vV p s g))] rfl ?_ ?_
 ·have d:=aah p s g c;exact au
 refine sg rfl (cd rfl (λb=>?_) (λb=>?_))
 ·(have a:vV p s g≠0:=by simpa using b);refine sg rfl (rX ?_);refine aJ hT [] (ts:=[(6,pF false (dX p s g)),(7,.int (vV p s g))]) (l:=[pF false (dX p s g),.int (vV p s g)]) trivial ⟨⟨rfl,_,rfl,?_⟩,cq,tt⟩ trivial rfl rfl rfl;rw [dX,xw a];exact eP (by decide)
 (have a:vV p s g=0:=by simpa using b);refine sk (sq (rgs [CG.pure (rowP 134 fJ jS (dM p s g))] rfl ?_ ?_));{have d:=Nl p s g (QL c a);exact au};refine rX ?_;refine aJ hT [] (ts:=[(6,pF false (dX p s g)),(7,.int (vV p s g))]) (l:=[pF false (dX p s g),.int (vV p s g)]) trivial ⟨⟨rfl,_,rfl,?_⟩,⟨rfl,_,rfl,?_⟩,tt⟩ trivial rfl rfl rfl;{rw [dX,aa2 a];exact KC _};rw [a];exact ah rfl
theorem aau (p:ak) (s:cZ) (z:Nat) (g:Int) (h:oh s) (i:z<64):AC Tryz.prog T aH 77 [aj p,encS s,oN z,.int g] [] (oN (yN p s z g)) []:=by
 refine aX Tryz.func77 ?_;refine sg rfl (sq ?_);refine WP.ent (st':=aN [(4,.rp 26 (aj p)),(5,.rp 62 (encS s)),(2,oN z),(3,.int g)] []) (em [(.s 4 0,1),(.s 5 0,1)] ⟨sF,sF,tt⟩ ⟨rq,rq,cq,cq,tt⟩ trivial) ?_;refine rgs [CG.pure (.tup [pF false (dX p s g),.int (vV p s g)])] rfl ?_ ?_
 ·have c:=Ju p s g h;exact au
 refine sg rfl (sq (sq (rg [] rfl ?_)));refine bk (WP.loop (α:=Nat) (λk=>aN [(2,oN z),(3,.int g),(4,.rp 26 (aj p)),(5,.rp 62 (encS s)),(9,pF false (dX p s g)),(11,oN (oK p s z g k)),(22,.int k)] []) (λk=>k<=6) (λk=>6 - k) ?_ ?_)
 ·refine ⟨0,?_,?_⟩;{omega};refine eX cX trivial
 rintro k hk;refine sg rfl (sq ?_);refine cd rfl (λd=>?_) (λd=>?_);{(have a:k<6:=by simp [-List.getD_eq_getElem?_getD]at d;omega);have f:oK p s z g k<64:=adG (zV p s z g k) (aed (by decide) hk);refine sk (sq (bk (sq (rg [] rfl ?_))));refine sq (sq (rgs [CG.pure (.bool (z.testBit k))] rfl ?_ ?_));{have c:=Ri z k i a;exact au};refine cd rfl (λb=>?_) (λb=>?_);{(have hc:z.testBit k=false\/(k:Int)=g:=by simp only [fG]at b;simpa using b);refine xt (rg [] rfl ?_);refine ⟨k+1,?_,?_,?_⟩;{exact a};{refine eX ⟨cq,cq,cq,cq,cq,⟨rfl,_,rfl,ah (by rw [oK,aa2 hc])⟩,cq,tt⟩ trivial};(try simp only []);first | omega | grind};(have hc:¬ (z.testBit k=false\/(k:Int)=g):=by simp only [fG]at b;simpa using b);refine sk (sq (rgs [CG.pure (.tup [pF false (dX p s k),.int (vV p s k)])] rfl ?_ ?_));{have c:=Ju p s k h;exact au};refine sq (rgs [CG.pure (.bool (lS (dX p s k) (dX p s g)))] rfl ?_ ?_);{have c:=Zd false false (dX p s k) (dX p s g);exact au};refine cd rfl (λe=>?_) (λe=>?_);{(have hd:lS (dX p s k) (dX p s g)=false:=by simpa using e);refine rgs [CG.pure (oN (oK p s z g k ||| 2 ^ k))] rfl ?_ ?_;{have c:=Sm (oK p s z g k) k f a;exact au};refine rg [] rfl ⟨k+1,?_,?_,?_⟩;{exact a};{refine eX ⟨cq,cq,cq,cq,cq,⟨rfl,_,rfl,ah (by rw [oK,xw hc,aa2 hd])⟩,cq,tt⟩ trivial};(try simp only []);first | omega | grind};(have hd:¬ lS (dX p s k) (dX p s g)=false:=by simpa using e);refine sk (rg [] rfl ?_);refine ⟨k+1,?_,?_,?_⟩;{exact a};{refine eX ⟨cq,cq,cq,cq,cq,⟨rfl,_,rfl,ah (by rw [oK,xw hc,xw hd])⟩,cq,tt⟩ trivial};(try simp only []);first | omega | grind};(have a:k=6:=by simp [-List.getD_eq_getElem?_getD]at d;omega);subst a;refine xt (sq (rg [] rfl ?_));exact WP.ret (aJ hT [] (ts:=[(8,oN (yN p s z g))]) (l:=[oN (yN p s z g)]) trivial ⟨⟨rfl,_,rfl,ah rfl⟩,tt⟩ trivial rfl rfl rfl)
def fD (f:Nat->Bool):Nat->Nat
 | 0=>0
 | k+1=>fD f k+(if f k then 2 ^ k else 0)
theorem IX (f:Nat->Bool):∀ k,fD f k<2 ^ k
 | 0=>Nat.one_pos
 | k+1=>by have:=IX f k;rw [fD,Nat.pow_succ];split <;> omega
theorem KE (f:Nat->Bool):∀ k j,(fD f k).testBit j=(decide (j<k)&&f j)
 | 0,j=>by simp [fD]
 | k+1,j=>by have b:=IX f k;have a:=KE f k j;rw [fD];rcases Nat.lt_trichotomy j k with h | h | h;{rw [show decide (j<k+1)=true from adx (by omega)];rw [show decide (j<k)=true from adx h]at a;split;{rw [aen,Nat.testBit_two_pow_add_gt h,a]};exact a};{subst h;rw [show decide (j<j+1)=true from adx (by omega)];rw [show decide (j<j)=false from acB (by omega)]at a;split;{rename_i hf;rw [aen,Nat.testBit_two_pow_add_eq,a,hf];rfl};rename_i hf;rw [aeb,a];simpa using hf};rw [show decide (j<k+1)=false from acB (by omega),aes];refine aek ?_;have:2 ^ (k+1)<=2 ^ j:=aed (by decide) (by omega);rw [Nat.pow_succ]at this;split <;> omega
theorem IW {n:Nat} {f:Nat->Bool} (hn:n<2 ^ 64) (h:∀ j,j<64->n.testBit j=f j):fD f 64=n:=by
 refine Nat.eq_of_testBit_eq λj=>?_;rw [KE];by_cases a:j<64
 ·rw [h j a,adx a,adZ]
 rw [acB a,aes,aek];exact adG hn (aed (by decide) (by omega))
def uN (a:Int):Nat:=(wU a).toNat
abbrev oD (a:Int):Prop := -9223372036854775808<=a/\a<=9223372036854775807
theorem BH (a:Int):wU a=uN a:=(aeI (sD a).1).symm
theorem sG (a:Int):uN a<2 ^ 64:=by have:=sD a;unfold uN;omega
theorem nH (a:Int):(uN a:Int)=a % 18446744073709551616:=by rw [<- BH,wU,IntKind.wrap_u64]
theorem WJ {a:Int} (h:oD a):wI (uN a)=a:=by rw [wI,IntKind.wrap_i64,nH];omega
theorem qc (a:Int):oD (wI a):=by rw [wI,IntKind.wrap_i64];constructor <;> omega
theorem yY (n:Nat):uN (n:Int)=n % 2 ^ 64:=by have:=nH n;omega
theorem BJ (a:Int):uN (wI a)=uN a:=by have b:=nH (wI a);have c:=nH a;rw [wI,IntKind.wrap_i64]at b;rw [wI,IntKind.wrap_i64];omega
theorem Gi {n:Nat} (h:n<2 ^ 64):uN (wI n)=n:=by rw [BJ,yY,aeE h]
theorem aaC {a b:Int} (c:oD a) (hb:oD b) (h:uN a=uN b):a=b:=by rw [<- WJ c,<- WJ hb,h]
abbrev fM (a:Int) (k:Nat):Bool:=(uN a).testBit k
theorem vW {a:Int} {f:Nat->Bool} (b:oD a) (h:∀ j,j<64->fM a j=f j):wI (fD f 64)=a:=by rw [IW (sG a) h,WJ b]
theorem Qh {a:Int} (b:oD a):∃ n:Nat,n<2 ^ 63/\((a=n /\ ∀ j,fM a j=n.testBit j)\/(a = -(n+1:Int) /\ ∀ j,fM a j=(decide (j<64) && !n.testBit j))):=by
 obtain ⟨c,d⟩:=b;rcases Int.lt_or_le a 0 with h | h
 ·refine ⟨(-a - 1).toNat,by omega,.inr ⟨by omega,λj=>?_⟩⟩;(have e:uN a=2 ^ 64 - ((-a - 1).toNat+1):=by have:=nH a;omega);show (uN a).testBit j=_;rw [e,aeY (by omega)]
 refine ⟨a.toNat,by omega,.inl ⟨by omega,λj=>?_⟩⟩;(have e:uN a=a.toNat:=by have:=nH a;omega);show (uN a).testBit j=_;rw [e]
theorem kS (a:Int):(BitVec.ofInt 64 a).toNat=uN a:=by rw [BitVec.toNat_ofInt];have:=nH a;omega
theorem P8 (x:Nat) {y:Nat} (h:y<2 ^ 64):x &&& y<2 ^ 64:=Nat.and_lt_two_pow x h
theorem FP {x y:Nat} (hx:x<2 ^ 64) (h:y<2 ^ 64):x ||| y<2 ^ 64:=Nat.or_lt_two_pow hx h
theorem yV {n:Nat} (h:n<2 ^ 64):IntKind.u64.wrap (n:Int)=n:=by rw [IntKind.wrap_u64];omega
theorem Zm (a b:Int):bA .i64 a b=wI ((uN a &&& uN b:Nat):Int):=by
 unfold bA;rw [BitVec.toNat_and];show wI (((BitVec.ofInt 64 a).toNat &&& (BitVec.ofInt 64 b).toNat:Nat):Int)=_;rw [kS,kS]
theorem acX (a b:Int):bO .i64 a b=wI ((uN a ||| uN b:Nat):Int):=by
 unfold bO;rw [BitVec.toNat_or];show wI (((BitVec.ofInt 64 a).toNat ||| (BitVec.ofInt 64 b).toNat:Nat):Int)=_;rw [kS,kS]
theorem aaW (a b:Int):bX .i64 a b=wI ((uN a ^^^ uN b:Nat):Int):=by
 unfold bX;rw [BitVec.toNat_xor];show wI (((BitVec.ofInt 64 a).toNat ^^^ (BitVec.ofInt 64 b).toNat:Nat):Int)=_;rw [kS,kS]
theorem acY (a b:Int):bN .i64 a b=wI ((uN a &&& (2 ^ 64 - (uN b+1)):Nat):Int):=by
 unfold bN;rw [BitVec.toNat_and,BitVec.toNat_not];show wI (((BitVec.ofInt 64 a).toNat &&& (2 ^ 64 - 1 - (BitVec.ofInt 64 b).toNat):Nat):Int)=_;rw [kS,kS,Nat.sub_sub,aen 1]
theorem PY {x y:Nat} (hx:x<2 ^ 64) (a:y<2 ^ 64):bA .u64 (x:Int) (y:Int)=((x &&& y:Nat):Int):=by
 unfold bA;rw [BitVec.toNat_and];show wU (((BitVec.ofInt 64 (x:Int)).toNat &&& (BitVec.ofInt 64 (y:Int)).toNat:Nat):Int)=_;rw [kS,kS,yY,yY,aeE hx,aeE a];exact yV (P8 _ a)
theorem Zl {x y:Nat} (hx:x<2 ^ 64) (a:y<2 ^ 64):bO .u64 (x:Int) (y:Int)=((x ||| y:Nat):Int):=by
 unfold bO;rw [BitVec.toNat_or];show wU (((BitVec.ofInt 64 (x:Int)).toNat ||| (BitVec.ofInt 64 (y:Int)).toNat:Nat):Int)=_;rw [kS,kS,yY,yY,aeE hx,aeE a];exact yV (FP hx a)
theorem IntKindX.wrap_i8 (n:Int):IntKind.i8.wrap n=(n+128) % 256 - 128:=by simp [IntKind.wrap,IntKind.bits,IntKind.signed];omega
theorem IntKindX.wrap_i16 (n:Int):IntKind.i16.wrap n=(n+32768) % 65536 - 32768:=by simp [IntKind.wrap,IntKind.bits,IntKind.signed];omega
theorem IntKindX.wrap_i32 (n:Int):IntKind.i32.wrap n=(n+2147483648) % 4294967296 - 2147483648:=by simp [IntKind.wrap,IntKind.bits,IntKind.signed];omega
theorem IntKindX.wrap_u8 (n:Int):IntKind.u8.wrap n=n % 256:=by simp [IntKind.wrap,IntKind.bits,IntKind.signed]
theorem IntKindX.wrap_u16 (n:Int):IntKind.u16.wrap n=n % 65536:=by simp [IntKind.wrap,IntKind.bits,IntKind.signed]
theorem IntKindX.wrap_u32 (n:Int):IntKind.u32.wrap n=n % 4294967296:=by simp [IntKind.wrap,IntKind.bits,IntKind.signed]
theorem zC (n k:Nat):(n:Int).fdiv (2 ^ k)=((n / 2 ^ k:Nat):Int):=by
 rw [aeH _ (by exact Int.le_of_lt (Int.pow_pos (by decide)))];simp
def oP (a k:Int):Int:=wI (bA .u64 ((wU a).fdiv (2 ^ (min (wU k).toNat 64))) 1)
def GU (a k v:Int):Int:=wI (bO .u64 (wU a) (wU (wU v*2 ^ (min (wU k).toNat 64))))
theorem aa9 {k:Nat} (h:k<64):min (wU (k:Int)).toNat 64=k:=by rw [BH,yY];simp;omega
theorem lI (a:Int) {k:Nat} (h:k<64):oP a k=jU (fM a k):=by
 have b:=sG a;rw [oP,aa9 h,BH,zC,show (1:Int)=((1:Nat):Int)from rfl,PY (aeu (ae5 _ _) b) (by decide),Nat.and_one_is_mod];show wI _=_;unfold jU fM;rw [adU];rcases Nat.mod_two_eq_zero_or_one (uN a / 2 ^ k)with e | e <;> rw [e] <;> rfl
theorem BI (f:Nat->Bool) {k:Nat} (h:k<64):GU (wI (fD f k)) k (jU (f k))=wI (fD f (k+1)):=by
 have hb:=IX f k;have a:fD f k<2 ^ 64:=adG hb (aed (by decide) (by omega));have hp:2 ^ k<2 ^ 64:=Nat.pow_lt_pow_right (by decide) h;rw [GU,aa9 h,BH (wI _),Gi a,fD];cases f k with| true=>(have e:wU (wU (jU true)*2 ^ k)=((2 ^ k:Nat):Int):=by rw [show wU (jU true)=1 from rfl,Int.one_mul,show ((2:Int) ^ k)=((2 ^ k:Nat):Int) by simp];exact yV hp);rw [e,Zl a hp,Nat.or_comm];congr 2;have:=Nat.two_pow_add_eq_or_of_lt hb 1;rw [Nat.mul_one]at this;rw [<- this,aa2 rfl,aen]| false=>(have e:wU (wU (jU false)*2 ^ k)=((0:Nat):Int):=by rw [show wU (jU false)=0 from rfl,Int.zero_mul];rfl);rw [e,Zl a (by decide),Nat.or_zero];rfl
def Dc (op:Int) (x y:Bool):Bool:=if op=21 then x&&y else if op=22 then x||y else if op=23 then x != y else if op=24 then x && !y else false
theorem aap {op a b:Int} (h:21<=op/\op<=24):wI (fD (λk=>Dc op (fM a k) (fM b k)) 64)=mg op a b:=by
 have d:=sG a;have c:=sG b;have key:∀ n:Nat,n<2 ^ 64->(∀ j,j<64->n.testBit j=Dc op (fM a j) (fM b j))->wI (fD (λk=>Dc op (fM a k) (fM b k)) 64)=wI n:=λn hn f=>by rw [IW hn f]
 have e:op=21\/op=22\/op=23\/op=24:=by omega
 rcases e with rfl | rfl | rfl | rfl
 ·rw [show mg 21 a b=bA .i64 a b from rfl,Zm];exact key _ (P8 _ c) λj _=>Nat.testBit_and ..
 ·rw [show mg 22 a b=bO .i64 a b from rfl,acX];exact key _ (FP d c) λj _=>Nat.testBit_or ..
 ·rw [show mg 23 a b=bX .i64 a b from rfl,aaW];exact key _ (Nat.xor_lt_two_pow d c) λj _=>Nat.testBit_xor ..
 rw [show mg 24 a b=bN .i64 a b from rfl,acY];refine key _ (aeu Nat.and_le_left d) λj g=>?_;rw [Nat.testBit_and,aeY c,adx g];rfl
def vN (a:Int) (b:Int) (z:Bool) (k:Nat):Bool:=if 0<=(k:Int) - b/\(k:Int) - b<64 then fM a ((k:Int) - b).toNat else z
def YP (b:Int):Int:=if b>64 then 64 else b
theorem acR {b:Int} (hb:oD b) (h:0<=b):∃ n:Nat,n<=64/\YP b=n/\min (wU b).toNat 64=n/\min b.toNat 64=n:=by
 refine ⟨min b.toNat 64,by omega,by unfold YP;split <;> omega,?_,rfl⟩;have:wU b=b:=by rw [wU,IntKind.wrap_u64];omega
 rw [this]
theorem ZM {a:Int} {n:Nat}:wI (fD (vN a n false) 64)=wI (a*2 ^ n):=by
 have e:uN (a*2 ^ n)=uN a*2 ^ n % 2 ^ 64:=by(have c:((uN (a*2 ^ n):Nat):Int)=((uN a*2 ^ n % 2 ^ 64:Nat):Int):=by rw [nH,Int.natCast_emod,Int.natCast_mul,nH,Int.natCast_pow];show a*2 ^ n % 18446744073709551616=a % 18446744073709551616*2 ^ n % 18446744073709551616;rw [Int.mul_emod,Int.mul_emod (a % 18446744073709551616) (2 ^ n),Int.emod_emod]);omega
 refine vW (qc _) λj b=>?_;show (uN (wI _)).testBit j=_;rw [BJ,e,Nat.testBit_mod_two_pow,Nat.testBit_mul_two_pow,adx b,adZ,vN];by_cases hn:n<=j
 ·rw [aa2 (by omega),adx hn,adZ,show ((j:Int) - n).toNat=j - n by omega]
 rw [xw (by omega),acB hn];rfl
theorem WM {a:Int} {n:Nat}:wI (fD (vN a (-(n:Int)) false) 64)=wI ((wU a).fdiv (2 ^ n)):=by
 have b:=sG a;rw [BH,zC];refine vW (qc _) λj c=>?_;show (uN (wI _)).testBit j=_;rw [Gi (aeu (ae5 _ _) b),Nat.testBit_div_two_pow,vN];by_cases hn:j+n<64
 ·rw [aa2 (by omega),show ((j:Int) - -(n:Int)).toNat=j+n by omega]
 rw [xw (by omega)];exact aek (adG b (aed (by decide) (by omega)))
theorem F5 {m j:Nat} (hm:m<2 ^ 63) (a:63<=j):m.testBit j=false:=aek (adG hm (aed (by decide) a))
theorem aal {m:Nat} (hm:m<2 ^ 63) (j:Nat):fM (-(m+1:Int)) j=(decide (j<64) && !m.testBit j):=by
 have e:uN (-(m+1:Int))=2 ^ 64 - (m+1):=by have:=nH (-(m+1:Int));omega
 show (uN _).testBit j=_;rw [e,aeY (by omega)]
theorem SI {a:Int} {n:Nat} (d:oD a):wI (fD (vN a (-(n:Int)) (fM a 63)) 64)=a.fdiv (2 ^ n):=by
 obtain ⟨m,hm,⟨rfl,hb⟩ | ⟨rfl,hb⟩⟩:=Qh d
 ·have hd:=ae5 m (2 ^ n);rw [zC];obtain ⟨q,b⟩:∃ q,m / 2 ^ n=q:=⟨_,rfl⟩;rw [b]at hd ⊢;refine vW (by constructor <;> omega) λj c=>?_;(have e:uN (q:Int)=q:=by rw [yY];exact aeE (by omega));show (uN _).testBit j=_;rw [e,<- b,Nat.testBit_div_two_pow,vN,hb 63,F5 hm (abd _)];by_cases hn:j+n<64;{rw [aa2 (by omega),hb,show ((j:Int) - -(n:Int)).toNat=j+n by omega]};rw [xw (by omega)];exact F5 hm (by omega)
 have hd:=ae5 m (2 ^ n);(have e:(-(m+1:Int)).fdiv (2 ^ n) = -(((m / 2 ^ n:Nat):Int)+1):=by rw [aeH _ (Int.le_of_lt (Int.pow_pos (by decide)))];have hp:(0:Int)<2 ^ n:=Int.pow_pos (by decide);show Int.negSucc m / 2 ^ n=_;rw [Int.negSucc_ediv m hp,Int.natCast_ediv,Int.natCast_pow];rfl);rw [e];obtain ⟨q,b⟩:∃ q,m / 2 ^ n=q:=⟨_,rfl⟩;rw [b]at hd ⊢;refine vW (by constructor <;> omega) λj c=>?_;rw [aal (by omega),<- b,Nat.testBit_div_two_pow,vN,hb 63,adx c,F5 hm (abd _)];by_cases hn:j+n<64;{rw [aa2 (by omega),hb,show ((j:Int) - -(n:Int)).toNat=j+n by omega,adx hn]};rw [xw (by omega),F5 hm (by omega)];rfl
theorem acJ (b:Int):bA .i64 b 63=((b % 64).toNat:Nat):=by
 have a:=nH b;rw [Zm,show uN 63=2 ^ 6 - 1 from rfl,aeP,wI,IntKind.wrap_i64];omega
theorem ZT {a b:Int}:wI (fD (λk=>fM a ((k+64 - (b % 64).toNat) % 64)) 64)=mg 28 a b:=by
 have c:=sG a;obtain ⟨s,m⟩:∃ s,(b % 64).toNat=s:=⟨_,rfl⟩;have d:s<64:=by omega
 rw [show mg 28 a b=wI (Qz (wU a) (bA .i64 b 63))from rfl,acJ,m];have e:bA .u64 (wU ((s:Nat):Int)) 63=((s:Nat):Int):=by rw [BH,yY,show (63:Int)=((63:Nat):Int)from rfl,PY (by omega) (by decide),show 63=2 ^ 6 - 1 from rfl,aeP];omega
 have f:wU (64 - ((s:Nat):Int))=((64 - s:Nat):Int):=by rw [wU,IntKind.wrap_u64];omega
 have g:wU ((uN a:Int)*2 ^ s)=((uN a*2 ^ s % 2 ^ 64:Nat):Int):=by rw [wU,IntKind.wrap_u64];simp
 rw [Qz,e,f,adu,adu,aev (by omega:s<=64),aev (by omega:64 - s<=64),BH a,zC,g,Zl (by omega) (aeu (ae5 _ _) c)];refine vW (qc _) λj l=>?_;show (uN (wI _)).testBit j=_;rw [Gi (FP (by omega) (aeu (ae5 _ _) c)),Nat.testBit_or,Nat.testBit_mod_two_pow,Nat.testBit_mul_two_pow,Nat.testBit_div_two_pow,adx l,adZ];by_cases h:s<=j
 ·rw [adx h,adZ,aek (i:=j+(64 - s)) (adG c (aed (by decide) (by omega))),Bool.or_false,show (j+64 - s) % 64=j - s by omega]
 rw [acB h,aes,aeB,show (j+64 - s) % 64=j+(64 - s) by omega]
def lD (a:Int) (n:Nat) (sign:Bool) (k:Nat):Bool:=if k<n then fM a k else sign&&fM a (n - 1)
theorem wY {a x:Int} {n:Nat} (hn:n<=32) {sign:Bool} (hw:oD x) (hx:uN x=if (sign&&fM a (n - 1))=true then 2 ^ n*(2 ^ (64 - n) - 1)+uN a % 2 ^ n else uN a % 2 ^ n):wI (fD (lD a n sign) 64)=x:=by
 refine vW hw λj c=>?_;have hm:uN a % 2 ^ n<2 ^ n:=ae8 _ (Nat.two_pow_pos n);show (uN x).testBit j=_;rw [hx,lD];split
 ·rename_i h;rw [aer _ hm,Nat.testBit_mod_two_pow,Nat.testBit_two_pow_sub_one,h];by_cases b:j<n;{rw [aa2 b,aa2 b,adx b,adZ]};rw [xw b,xw b];exact adx (by omega)
 rename_i h;rw [Nat.testBit_mod_two_pow];by_cases b:j<n;{rw [aa2 b,adx b,adZ]};rw [xw b,acB b,aes,Bool.eq_false_iff.2 h]
theorem wX (a:Int):wI (fD (lD a 8 true) 64)=lJ 10 a/\wI (fD (lD a 16 true) 64)=lJ 11 a/\wI (fD (lD a 32 true) 64)=lJ 12 a/\wI (fD (lD a 8 false) 64)=lJ 13 a/\wI (fD (lD a 16 false) 64)=lJ 14 a/\wI (fD (lD a 32 false) 64)=lJ 15 a:=by
 have h:=nH a;refine ⟨?_,?_,?_,?_,?_,?_⟩
 ·refine (wY (x:=wI (IntKind.i8.wrap a)) (by decide) (qc _) ?_).trans rfl;rw [BJ];have b:=nH (IntKind.i8.wrap a);rw [IntKindX.wrap_i8]at b ⊢;rw [adZ,fM,adU];simp only [acf];split <;> omega
 ·refine (wY (x:=wI (IntKind.i16.wrap a)) (by decide) (qc _) ?_).trans rfl;rw [BJ];have b:=nH (IntKind.i16.wrap a);rw [IntKindX.wrap_i16]at b ⊢;rw [adZ,fM,adU];simp only [acf];split <;> omega
 ·refine (wY (x:=wI (IntKind.i32.wrap a)) (by decide) (qc _) ?_).trans rfl;rw [BJ];have b:=nH (IntKind.i32.wrap a);rw [IntKindX.wrap_i32]at b ⊢;rw [adZ,fM,adU];simp only [acf];split <;> omega
 ·refine (wY (x:=wI (IntKind.u8.wrap a)) (by decide) (qc _) ?_).trans rfl;rw [BJ];have b:=nH (IntKind.u8.wrap a);rw [IntKindX.wrap_u8]at b ⊢;rw [aes];simp only [adJ,adM];omega
 ·refine (wY (x:=wI (IntKind.u16.wrap a)) (by decide) (qc _) ?_).trans rfl;rw [BJ];have b:=nH (IntKind.u16.wrap a);rw [IntKindX.wrap_u16]at b ⊢;rw [aes];simp only [adJ,adM];omega
 refine (wY (x:=wI (IntKind.u32.wrap a)) (by decide) (qc _) ?_).trans rfl;rw [BJ];have b:=nH (IntKind.u32.wrap a);rw [IntKindX.wrap_u32]at b ⊢;rw [aes];simp only [adJ,adM];omega
theorem Ug (a:Int) {k:Nat} (h:k<64):bA .u64 ((wU a).fdiv (2 ^ min k 64)) 1=(if fM a k then 1 else 0:Nat):=by
 rw [aev (by omega),BH,zC,show (1:Int)=((1:Nat):Int)from rfl,PY (aeu (ae5 _ _) (sG a)) (by decide),Nat.and_one_is_mod,fM,adU];rcases Nat.mod_two_eq_zero_or_one (uN a / 2 ^ k)with e | e <;> rw [e] <;> rfl
theorem TP (a:Int):∀ k,k<=64 -> ∃ n:Nat,Bz a k=n/\n<2 ^ 64 /\ ∀ j,j<64->n.testBit j=(decide (63 - j<k)&&fM a (63 - j))
 | 0,_=>⟨0,rfl,by decide,λj d=>by simp⟩
 | k+1,hk=>by obtain ⟨n,f,c,g⟩:=TP a k (by omega);have hp:2 ^ (63 - k)<2 ^ 64:=Nat.pow_lt_pow_right (by decide) (by omega);(have hm:min (63 - k) 64=63 - k:=by omega);cases hb:fM a k with| true=>refine ⟨n ||| 2 ^ (63 - k),?_,FP c hp,λj d=>?_⟩;{rw [Bz,Ug a (by omega),hb,f,aa2 rfl,hm,show ((1:Nat):Int)*2 ^ (63 - k)=((2 ^ (63 - k):Nat):Int) by simp,show wU ((2 ^ (63 - k):Nat):Int)=_ from yV hp,Zl c hp]};rw [Nat.testBit_or,g j d,Nat.testBit_two_pow];by_cases e:63 - k=j;{rw [show 63 - j=k by omega,hb];simp [e]};rw [acB e,Bool.or_false];by_cases b:63 - j<k;{rw [adx b,adx (by omega:63 - j<k+1)]};rw [acB b,acB (by omega:¬ 63 - j<k+1)]| false=>refine ⟨n,?_,c,λj d=>?_⟩;{rw [Bz,Ug a (by omega),hb,f];rw [show wU (((if false=true then 1 else 0:Nat):Int)*2 ^ (min (63 - k) 64))=((0:Nat):Int) by simp;rfl,Zl c (by decide),Nat.or_zero]};rw [g j d];by_cases e:63 - j=k;{rw [e,hb,Bool.and_false,Bool.and_false]};by_cases b:63 - j<k;{rw [adx b,adx (by omega:63 - j<k+1)]};rw [acB b,acB (by omega:¬ 63 - j<k+1)]
theorem YK (a:Int):wI (fD (λk=>fM a (63 - k)) 64)=Ph a:=by
 obtain ⟨n,b,c,d⟩:=TP a 64 (abd _);rw [Ph,b,IW c λj e=>?_];rw [d j e,adx (by omega),adZ]
def Fp (a:Int):Nat->Nat
 | 0=>0
 | k+1=>if fM a k then 0 else Fp a k+1
theorem KI {a:Int} {L:Nat} (c:uN a<2 ^ L) (b:L=0\/2 ^ (L - 1)<=uN a):∀ k,L<=k->Fp a k=k - L
 | 0,h=>by simp [Fp]
 | k+1,h=>by rcases adv k L with hk | hk;{(obtain rfl:L=k+1:=by omega);(have hb:fM a k=true:=by refine Nat.testBit_of_two_pow_le_and_two_pow_add_one_gt ?_ c;rcases b with b | b;{omega};simpa using b);rw [Fp,aa2 hb];omega};have hb:fM a k=false:=aek (adG c (aed (by decide) hk));rw [Fp,xw (by rw [hb];decide),KI c b k hk];omega
theorem Yl (a:Int):((Fp a 64:Nat):Int)=lJ 5 a:=by
 rw [show lJ 5 a=64 - (Go.Lib.bitLen (wU a).toNat:Int)from rfl];show _=64 - (Go.Lib.bitLenAux 64 (uN a):Int);by_cases b:uN a=0
 ·rw [KI (L:=0) (by omega) (.inl rfl) 64 (by omega),b,Go.Lib.bitLenAux_zero];rfl
 obtain ⟨f,c,d⟩:=Go.Lib.bitLenAux_bounds 64 (uN a) (sG a) b;have e:Go.Lib.bitLenAux 64 (uN a)<=64:=Go.Lib.bitLenAux_le 64 _ 64 (sG a);rw [KI d (.inr c) 64 e];omega
def Aq (a:Int):Nat->Nat
 | 0=>0
 | k+1=>if fM a (63 - k)then 0 else Aq a k+1
theorem Sl {a:Int} {c m:Nat} (hc:c<64) (h:uN a=2 ^ c*(2*m+1)):∀ k,k<=64->64 - c<=k->Aq a k=k - (64 - c)
 | 0,_,h2=>by omega
 | k+1,h1,h2=>by(have hb:fM a (63 - k)=(decide (63 - k>=c)&&(2*m+1).testBit (63 - k - c)):=by show (uN a).testBit _=_;rw [h,Nat.testBit_two_pow_mul]);rcases adv (63 - k) c with hk | hk;{rw [Aq,hb,acB (by omega),aes,xw (by decide),Sl hc h k (by omega) (by omega)];omega};rw [Aq,hb,adx hk,show 63 - k - c=0 by omega,Nat.testBit_zero,show (2*m+1) % 2=1 by omega,aa2 (by decide)];omega
theorem Jo {a:Int} (h:uN a=0):∀ k,Aq a k=k
 | 0=>rfl
 | k+1=>by rw [Aq,fM,h,Nat.zero_testBit,xw (by decide),Jo h k]
theorem Jt (a:Int):((Aq a 64:Nat):Int)=lJ 6 a:=by
 rw [show lJ 6 a=((Go.Lib.ctz 64 (wU a).toNat:Nat):Int)from rfl];show _=((Go.Lib.ctz 64 (uN a):Nat):Int);by_cases b:uN a=0
 ·rw [Jo b,b];rfl
 obtain ⟨m,c,d⟩:=Go.Lib.ctzFrom_spec 64 (uN a) (by omega) (sG a);rw [Sl d c 64 (abd _) (by omega),Go.Lib.ctz,xw b];omega
def wH (f:Nat->Bool):Nat->Nat
 | 0=>0
 | k+1=>wH f k+(if f k then 1 else 0)
theorem LH (f:Nat->Bool):∀ k,wH f k<=k
 | 0=>abd _
 | k+1=>by have:=LH f k;rw [wH];split <;> omega
theorem AY {f g:Nat->Bool}:∀ {k},(∀ j,j<k->f j=g j)->wH f k=wH g k
 | 0,_=>rfl
 | k+1,h=>by rw [wH,wH,AY (λj a=>h j (by omega)),h k (by omega)]
theorem OC (f:Nat->Bool) (n:Nat):∀ k,wH f (n+k)=wH f n+wH (λj=>f (n+j)) k
 | 0=>rfl
 | k+1=>by rw [<- adV,wH,OC f n k,wH,adV]
def gW:List Nat->Nat
 | []=>0
 | b::l=>b+256*gW l
def FC (c:Nat):Nat->Nat
 | 0=>0
 | k+1=>c+256*FC c k
theorem and_split {b c:Nat} (y z:Nat) (hb:b<256) (hc:c<256):(b+256*y) &&& (c+256*z)=(b &&& c)+256*(y &&& z):=by
 have a:b &&& c<2 ^ 8:=Nat.and_lt_two_pow b hc;refine Nat.eq_of_testBit_eq λj=>?_;rw [Nat.testBit_and,aen b,aen c,aen (b &&& c),show (256:Nat)=2 ^ 8 from rfl,aer _ hb,aer _ hc,aer _ a];split
 ·rw [Nat.testBit_and]
 rw [Nat.testBit_and]
def Ji (b:Nat):Nat:=(b / 2 &&& 85)+(b &&& 85)
def MZ (b:Nat):Nat:=(b / 4 &&& 51)+(b &&& 51)
def g3B (b:Nat):Nat:=(b / 16+b) % 16
theorem adi:∀ b:_root_.Fin 128,∀ c:_root_.Fin 2,(b.val+128*c.val) &&& 85=b.val &&& 85:=by decide+kernel
theorem adh:∀ b:_root_.Fin 64,∀ c:_root_.Fin 4,(b.val+64*c.val) &&& 51=b.val &&& 51:=by decide+kernel
theorem acN:∀ b:_root_.Fin 256,g3B (MZ (Ji b.val))=wH b.val.testBit 8:=by decide+kernel
theorem acO:∀ b:_root_.Fin 256,Ji b.val<256:=by decide+kernel
theorem abe:∀ b:_root_.Fin 256,MZ b.val<256/\MZ (Ji b.val) % 16<=4/\MZ (Ji b.val) / 16<=4:=by decide+kernel
theorem aa7:∀ l:List Nat,(∀ b∈l,b<256)->(gW l / 2 &&& FC 85 l.length)+(gW l &&& FC 85 l.length)=gW (l.map Ji)
 | [],_=>rfl
 | b::l,h=>by have a:=aa7 l (λc hc=>h c (adK _ hc));have hb:b<256:=h b ad7;have e:=adi ⟨b / 2,by omega⟩ ⟨gW l % 2,by omega⟩;simp only at e;rw [aeG,gW,gW,ad4,FC,show (b+256*gW l) / 2=(b / 2+128*(gW l % 2))+256*(gW l / 2) by omega,and_split _ _ (by omega) (by decide),and_split _ _ hb (by decide),e,<- a,Ji];omega
theorem aa6:∀ l:List Nat,(∀ b∈l,b<256)->(gW l / 4 &&& FC 51 l.length)+(gW l &&& FC 51 l.length)=gW (l.map MZ)
 | [],_=>rfl
 | b::l,h=>by have a:=aa6 l (λc hc=>h c (adK _ hc));have hb:b<256:=h b ad7;have e:=adh ⟨b / 4,by omega⟩ ⟨gW l % 4,by omega⟩;simp only at e;rw [aeG,gW,gW,ad4,FC,show (b+256*gW l) / 4=(b / 4+64*(gW l % 4))+256*(gW l / 4) by omega,and_split _ _ (by omega) (by decide),and_split _ _ hb (by decide),e,<- a,MZ];omega
theorem aa5:∀ l:List Nat,(∀ b∈l,b % 16<=4/\b / 16<=4)->(gW l / 16+gW l) &&& FC 15 l.length=gW (l.map g3B)/\gW l % 16<=4
 | [],_=>⟨rfl,by decide⟩
 | b::l,h=>by obtain ⟨a,f⟩:=aa5 l (λc hc=>h c (adK _ hc));obtain ⟨d,e⟩:=h b ad7;refine ⟨?_,by rw [gW];omega⟩;rw [aeG,gW,gW,ad4,FC,show (b+256*gW l) / 16+(b+256*gW l)=(b / 16+16*(gW l % 16)+b)+256*(gW l / 16+gW l) by omega,and_split _ _ (by omega) (by decide),a,g3B,show 15=2 ^ 4 - 1 from rfl,aeP];omega
theorem LU:∀ l:List Nat,(∀ b∈l,b<256)->gW l<256 ^ l.length
 | [],_=>by decide
 | b::l,h=>by have:=LU l (λc hc=>h c (adK _ hc));have hb:b<256:=h b ad7;rw [gW,ad4,Nat.pow_succ];omega
theorem Ti:∀ l:List Nat,(∀ b∈l,b<256)->wH (gW l).testBit (8*l.length)=(l.map λb=>wH b.testBit 8).sum
 | [],_=>rfl
 | b::l,h=>by have hb:b<2 ^ 8:=h b ad7;rw [aeG,List.sum_cons,<- Ti l (λc hc=>h c (adK _ hc)),ad4,show 8*(l.length+1)=8+8*l.length by omega,OC,gW,aen b];congr 1;{exact AY λj a=>by rw [show (256:Nat)=2 ^ 8 from rfl,aer _ hb,aa2 a]};exact AY λj a=>by rw [show (256:Nat)=2 ^ 8 from rfl,aer _ hb,xw (by omega),Nat.add_sub_cancel_left]
theorem PW:∀ (k x:Nat),x<256 ^ k -> ∃ l:List Nat,l.length=k/\(∀ b∈l,b<256)/\gW l=x
 | 0,x,h=>⟨[],rfl,(λ_ h=>nomatch h),by rw [Nat.pow_zero]at h;simp only [gW];omega⟩
 | k+1,x,h=>by rw [Nat.pow_succ]at h;obtain ⟨l,a,c,d⟩:=PW k (x / 256) (by omega);refine ⟨x % 256::l,by simp [a],λb hb=>?_,by rw [gW,d];omega⟩;rcases List.mem_cons.1 hb with rfl | hb;{omega};exact c b hb
theorem Dx (x:Nat) {d:Int} {n:Nat} (hd:d=(n:Nat)):(x:Int).fdiv d=((x / n:Nat):Int):=by
 subst hd;rw [aeH _ (by omega)];simp
def Ag:List Nat->List Nat->List Nat
 | a::l,b::m=>(a+b)::Ag l m
 | [],m=>m
 | l,[]=>l
theorem OT:∀ l m,gW (Ag l m)=gW l+gW m
 | a::l,b::m=>by rw [Ag,gW,gW,gW,OT l m];omega
 | [],m=>by rw [Ag,gW];omega
 | a::l,[]=>by rw [Ag];rfl;exact λh=>nomatch h
theorem Um {A B:Nat}:∀ {l m:List Nat},(∀ b∈l,b<=A)->(∀ b∈m,b<=B) -> ∀ b∈Ag l m,b<=A+B
 | a::l,b::m,h1,h2,x,hx=>by rw [Ag]at hx;rcases List.mem_cons.1 hx with rfl | hx;{have:=h1 a ad7;have:=h2 b ad7;omega};exact Um (λc hc=>h1 c (adK _ hc)) (λc hc=>h2 c (adK _ hc)) x hx
 | [],m,h1,h2,x,hx=>by rw [Ag]at hx;have:=h2 x hx;omega
 | a::l,[],h1,h2,x,hx=>by rw [Ag]at hx;have:=h1 x hx;omega;exact λh=>nomatch h
theorem PE:∀ (k:Nat) (l:List Nat),(∀ b∈l,b<256)->gW l / 256 ^ k=gW (l.drop k)
 | 0,l,_=>by simp
 | k+1,[],_=>by simp [gW]
 | k+1,b::l,h=>by have hb:=h b ad7;rw [List.drop_succ_cons,<- PE k l (λc hc=>h c (adK _ hc)),Nat.pow_succ,aeC,<- Nat.div_div_eq_div_mul,gW];congr 1;omega
theorem Vq {n k:Nat} (h:n+n / k<2 ^ 64):qG (k:Int) (n:Int)=((n+n / k:Nat):Int):=by
 rw [qG,Dx n (n:=k) rfl,<- Int.natCast_add];exact yV h
theorem X9 {A:Nat}:∀ l:List Nat,(∀ b∈l,b<=A)->gW l*255+A<=A*256 ^ l.length
 | [],_=>by simp [gW]
 | b::l,h=>by have a:=X9 l (λc hc=>h c (adK _ hc));have hb:=h b ad7;rw [gW,ad4,Nat.pow_succ,<- Nat.mul_assoc];generalize A*256 ^ l.length=P at a ⊢;omega
theorem XZ {l:List Nat} {A K:Nat} (hl:l.length=8) (hA:∀ b∈l,b<=A) (h:A+A<256) (k:Nat) (g:K=256 ^ k):qG (K:Int) (gW l:Int)=gW (Ag l (l.drop k))/\(∀ b∈Ag l (l.drop k),b<=A+A)/\gW (Ag l (l.drop k))<2 ^ 64/\(Ag l (l.drop k)).length=8:=by
 subst g;have hb:=Um hA (λb hb=>hA b (List.drop_subset k l hb));have e:gW l+gW l / 256 ^ k=gW (Ag l (l.drop k)):=by rw [PE k l λb hb=>aeu (hA b hb) (by omega),OT]
 have hlen:∀ l m:List Nat,m.length<=l.length->(Ag l m).length=l.length:=λl=>by
  induction l with
  | nil=>intro m h;cases m with
   | nil=>rfl
   | cons=>cases h
  | cons a l i=>intro m h;cases m with
   | nil=>rfl
   | cons b m=>exact ac8 (· + 1) (i m (Nat.le_of_succ_le_succ h))
 have c:=LU _ (λb f=>aeu (hb b f) h);have d:=hlen l (l.drop k) (by rw [aeL];omega);rw [hl]at d;rw [d]at c;exact ⟨by rw [Vq (by rw [e];exact c),e],hb,c,d⟩
theorem XW {x:Nat} (h:x<2 ^ 64):Hl x=wH x.testBit 64:=by
 obtain ⟨l,hl,hb,rfl⟩:=PW 8 x h;have hp:=Ti l hb;rw [hl]at hp;rw [hp];have e:∀ b∈l.map Ji,b<256:=by rintro b a;obtain ⟨c,hc,rfl⟩:=List.mem_map.1 a;exact acO ⟨c,hb c hc⟩
 have f:∀ b∈(l.map Ji).map MZ,b<256/\b % 16<=4/\b / 16<=4:=by rintro b a;obtain ⟨c,hc,rfl⟩:=List.mem_map.1 a;obtain ⟨d,hd,rfl⟩:=List.mem_map.1 hc;exact ⟨(abe ⟨_,e _ hc⟩).1,(abe ⟨d,hb d hd⟩).2⟩
 have j:=aa7 l hb;have k:=aa6 _ e;have s:=(aa5 _ (λb g=>(f b g).2)).1;have n1:=LU _ e;have n2:=LU _ (λb g=>(f b g).1);simp only [ad5,hl]at j k s n1 n2;have o:FC 85 8=6148914691236517205:=rfl;have p:FC 51 8=3689348814741910323:=rfl;have r:FC 15 8=1085102592571150095:=rfl;rw [o]at j;rw [p]at k;rw [r]at s;have m:CQ (gW l)=((gW (l.map Ji):Nat):Int):=by rw [CQ,Dx _ (d:=2) (n:=2) rfl,show (6148914691236517205:Int)=((6148914691236517205:Nat):Int)from rfl,PY (by omega) (by decide),PY h (by decide),<- j,<- Int.natCast_add];exact yV (by rw [j];omega)
 have e2:EO (gW (l.map Ji))=((gW ((l.map Ji).map MZ):Nat):Int):=by rw [EO,Dx _ (d:=4) (n:=4) rfl,show (3689348814741910323:Int)=((3689348814741910323:Nat):Int)from rfl,PY (by omega) (by decide),PY (by omega) (by decide),<- k,<- Int.natCast_add];exact yV (by rw [k];omega)
 have i:gW ((l.map Ji).map MZ) / 16+gW ((l.map Ji).map MZ)<2 ^ 64:=by(have hlen2:((l.map Ji).map MZ).length=8:=by simp [hl]);have t:=X9 (A:=79) _ (λb g=>show b<=79 by have:=(f b g).2;omega);rw [hlen2,show 256 ^ 8=18446744073709551616 from rfl]at t;generalize gW ((l.map Ji).map MZ)=X at t ⊢;omega
 have e3:Ho (gW ((l.map Ji).map MZ))=((gW (((l.map Ji).map MZ).map g3B):Nat):Int):=by rw [Ho,Dx _ (d:=16) (n:=16) rfl,<- Int.natCast_add,wU,yV i,show (1085102592571150095:Int)=((1085102592571150095:Nat):Int)from rfl,PY i (by decide),s]
 rw [Hl,m,e2,e3];have u:(l.map λb=>wH b.testBit 8)=((l.map Ji).map MZ).map g3B:=by rw [List.map_map,List.map_map];exact List.map_congr_left λb a=>(acN ⟨b,hb b a⟩).symm
 rw [u];have hd:∀ b∈((l.map Ji).map MZ).map g3B,b<=8:=by rw [<- u];rintro b a;obtain ⟨c,hc,rfl⟩:=List.mem_map.1 a;exact LH _ _
 have hlen:(((l.map Ji).map MZ).map g3B).length=8:=by simp [hl]
 generalize ((l.map Ji).map MZ).map g3B=q at *;match q,hlen with| [c0,c1,c2,c3,c4,c5,c6,c7],_=>simp only [aeg,List.not_mem_nil,or_false,forall_eq_or_imp,forall_eq]at hd;obtain ⟨y,d1,d2,d3,d4,d5,d6,d7⟩:=hd;(have hq:∀ b∈[c0,c1,c2,c3,c4,c5,c6,c7],b<=8:=by simp only [aeg,List.not_mem_nil,or_false,forall_eq_or_imp,forall_eq];exact ⟨y,d1,d2,d3,d4,d5,d6,d7⟩);obtain ⟨o,v,_,g1⟩:=XZ (l:=[c0,c1,c2,c3,c4,c5,c6,c7]) (K:=256) rfl hq (by decide) 1 rfl;obtain ⟨p,w,_,g2⟩:=XZ (K:=65536) g1 v (by decide) 2 rfl;obtain ⟨r,b3,k3,_⟩:=XZ (K:=4294967296) g2 w (by decide) 4 rfl;have m:qG 4294967296 (qG 65536 (qG 256 (gW [c0,c1,c2,c3,c4,c5,c6,c7])))=_:=((ac8 (λz=>qG 4294967296 (qG 65536 z)) o).trans (ac8 (λz=>qG 4294967296 z) p)).trans r;rw [m];rw [Zm,Gi k3,show uN 127=2 ^ 7 - 1 from rfl,aeP,wI,IntKind.wrap_i64];simp only [List.sum_cons,List.sum_nil];simp only [Ag,List.drop];rw [gW];generalize gW _=Z;omega
theorem XY (a:Int):((wH (fM a) 64:Nat):Int)=lJ 4 a:=by
 rw [show lJ 4 a=Hl (wU a)from rfl,BH,XW (sG a)]
def tK (a b:Int) (k:Nat) (s:Int×Int):Int×Int :=
 if fM b k=false then (wI (wI (s.1*2)+wI (s.2.fdiv 9223372036854775808)),wU (s.2*2))else
 if k=63 then
  (if wU (s.2*2)<wU a then (wI (wI (wI (wI (s.1*2)+wI (s.2.fdiv 9223372036854775808)) - a.fdiv 9223372036854775808) - 1),wU (wU (s.2*2) - wU a))else (wI (wI (wI (s.1*2)+wI (s.2.fdiv 9223372036854775808)) - a.fdiv 9223372036854775808),wU (wU (s.2*2) - wU a)))
 else
  (if wU (wU (s.2*2)+wU a)<wU (s.2*2)then (wI (wI (wI (wI (s.1*2)+wI (s.2.fdiv 9223372036854775808))+a.fdiv 9223372036854775808)+1),wU (wU (s.2*2)+wU a))else (wI (wI (wI (s.1*2)+wI (s.2.fdiv 9223372036854775808))+a.fdiv 9223372036854775808),wU (wU (s.2*2)+wU a)))
def ZC (a b:Int):Nat->Int×Int
 | 0=>(0,0)
 | m+1=>tK a b (63 - m) (ZC a b m)
def Fq (b:Int):Nat->Int
 | 0=>0
 | m+1=>2*Fq b m+(if fM b (63 - m)=true then (if m=0 then -1 else 1)else 0)
theorem YQ (x:Int):x.fdiv 9223372036854775808=x / 9223372036854775808:=aeH _ (by decide)
theorem WI {a b acc:Int} {k:Nat} {s:Int×Int} (e:oD a) (c:s.1=wI (acc / 18446744073709551616)) (d:s.2=acc % 18446744073709551616) :
 (tK a b k s).1=wI ((2*acc+(if fM b k=true then (if k=63 then -a else a)else 0)) / 18446744073709551616)/\(tK a b k s).2=(2*acc+(if fM b k=true then (if k=63 then -a else a)else 0)) % 18446744073709551616:=by
 obtain ⟨hi,lo⟩:=s;simp only at c d;unfold tK wI wU;simp only [YQ,IntKind.wrap_i64,IntKind.wrap_u64]at *
 obtain ⟨g1,f⟩:=e;cases hb:fM b k with
 | false=>simp only [ad9,adJ,adM];subst c d;constructor <;> omega
 | true =>
  simp only [Bool.true_eq_false,adM,ad9];by_cases hk:k=63
  ·simp only [hk,ad9];subst c d;split <;> constructor <;> simp only <;> omega
  ·simp only [hk,adM];subst c d;split <;> constructor <;> simp only <;> omega
theorem Qi {a b:Int} (c:oD a):∀ m,m<=64->(ZC a b m).1=wI (a*Fq b m / 18446744073709551616)/\(ZC a b m).2=a*Fq b m % 18446744073709551616
 | 0,_=>by rw [Fq,Int.mul_zero];exact ⟨rfl,rfl⟩
 | m+1,h=>by obtain ⟨f,i2⟩:=Qi (b:=b) c m (by omega);have d:=WI (b:=b) (k:=63 - m) c f i2;(have e:2*(a*Fq b m)+(if fM b (63 - m)=true then (if 63 - m=63 then -a else a)else 0)=a*Fq b (m+1):=by rw [Fq,Int.mul_add,<- Int.mul_assoc a 2,Int.mul_comm a 2,Int.mul_assoc 2];congr 1;cases fM b (63 - m)with| false=>simp| true=>by_cases hm:m=0;{simp [hm]};simp [hm,show ¬ 63 - m=63 by omega]);rw [e]at d;exact d
theorem Np {b:Int}:∀ m,m<64->Fq b (m+1)=((uN b / 2 ^ (63 - m):Nat):Int) - (if fM b 63=true then 2 ^ (m+1)else 0)
 | 0,_=>by have f:=sG b;rw [Fq,Fq];simp only [ad9,aeQ];rw [fM,adU];simp only [acf];split <;> simp <;> omega
 | m+1,h=>by have e:=Np (b:=b) m (by omega);rw [Fq,e,xw (by omega:¬ m+1=0)];(have a:uN b / 2 ^ (63 - m)=uN b / 2 ^ (63 - (m+1)) / 2:=by rw [show 63 - m=(63 - (m+1))+1 by omega,Nat.pow_succ,<- Nat.div_div_eq_div_mul]);have c:fM b (63 - (m+1))=decide (uN b / 2 ^ (63 - (m+1)) % 2=1):=adU;rw [a,c];(have d:(2:Int) ^ (m+1+1)=2*2 ^ (m+1):=by rw [Int.pow_succ];omega);rw [d];generalize uN b / 2 ^ (63 - (m+1))=q;generalize (2:Int) ^ (m+1)=w;simp only [acf];split <;> split <;> omega
theorem Nq {b:Int} (hb:oD b):Fq b 64=b:=by
 have h:=Np (b:=b) 63 (by omega);have d:=nH b;rw [h,fM,adU];simp only [acf];obtain ⟨a,c⟩:=hb;split <;> simp <;> omega
theorem Nh {a b:Int} (i:oD a) (hb:oD b):ZC a b 64=(wI (oG a b),wO a b):=by
 obtain ⟨g,h⟩:=Qi (b:=b) i 64 (abd _);rw [Nq hb]at g h;have l:=nH a;have m:=nH b;obtain ⟨P,f⟩:∃ P:Nat,P=uN a*uN b:=⟨_,rfl⟩;have k:TA a b=((P / 18446744073709551616:Nat):Int):=by rw [f];rfl
 have hl:wO a b=((P % 18446744073709551616:Nat):Int):=by rw [f];rfl
 have e:a*b=(P:Int) - (if a<0 then 18446744073709551616*(uN b:Int)else 0) - (if b<0 then 18446744073709551616*(uN a:Int)else 0)+(if a<0/\b<0 then 18446744073709551616*18446744073709551616 else 0):=by rw [f,Int.natCast_mul];obtain ⟨a1,n⟩:=i;obtain ⟨o,p⟩:=hb;(have j:(uN a:Int)=a+(if a<0 then 18446744073709551616 else 0):=by split <;> omega);(have eb:(uN b:Int)=b+(if b<0 then 18446744073709551616 else 0):=by split <;> omega);rw [j,eb];by_cases d:a<0;{by_cases c:b<0;{simp only [d,c,ad9,and_self,Int.add_mul,Int.mul_add];omega};simp only [d,c,ad9,adM,and_false,Int.add_mul,Int.mul_add];omega};by_cases c:b<0;{simp only [d,c,ad9,adM,false_and,Int.add_mul,Int.mul_add];omega};simp only [d,c,adM,false_and,Int.add_mul,Int.mul_add];omega
 have q:=sG a;have r:=sG b;refine Prod.ext ?_ ?_
 ·rw [g];show wI _=wI _;rw [oG,Ii,k,e];unfold wI wU;simp only [IntKind.wrap_i64,IntKind.wrap_u64];by_cases d:a<0 <;> by_cases c:b<0 <;> simp only [d,c,ad9,adM,and_self,and_false,false_and] <;> omega
 rw [h];show _=wO a b;rw [hl,e];by_cases d:a<0 <;> by_cases c:b<0 <;> simp only [d,c,ad9,adM,and_self,and_false,false_and] <;> omega
theorem o9 (a k:Int):AC Tryz.prog T aH 245 [.int a,.int k] [] (.int (oP a k)) []:=by
 refine aX Tryz.func245 ?_;refine sg rfl (sq (rgs [] rfl ?_ ?_))
 ·have:=(sD k).1;exact au
 exact WP.ret (bf hT (by rfl) rfl)
theorem uV (a k v:Int):AC Tryz.prog T aH 246 [.int a,.int k,.int v] [] (.int (GU a k v)) []:=by
 refine aX Tryz.func246 ?_;refine sg rfl (sq (rgs [] rfl ?_ ?_))
 ·have:=(sD k).1;exact au
 exact WP.ret (bf hT (by rfl) rfl)
theorem uU (b:Bool):AC Tryz.prog T aH 247 [.bool b] [] (.int (jU b)) []:=by
 refine aX Tryz.func247 ?_;refine sg rfl (sq (sq (rg [] rfl ?_)));refine cd rfl (λa=>?_) (λa=>?_)
 ·refine sg rfl (rX ?_);refine bf hT (by rfl) ?_;simp_all [jU]
 refine sk (sq (rg [] rfl ?_));refine rX ?_;refine bf hT (by rfl) ?_;simp_all [jU]
theorem Vh (op:Int):AC Tryz.prog T aH 206 [.int op] [] (.int (kR op)) []:=by
 refine aX Tryz.func206 ?_;refine sg rfl (sq (sq (rg [] rfl ?_)));refine cd rfl (λa=>?_) (λa=>?_)
 ·simp only [fG]at a;simp at a;exact sg rfl (WP.ret (bf hT (by rfl) (by rw [kR,xw (by omega),xw (by omega)])))
 simp only [fG]at a;simp at a;refine sk (sq (sq (rg [] rfl ?_)));refine cd rfl (λb=>?_) (λb=>?_);{simp at b;exact sg rfl (WP.ret (bf hT (by rfl) (by rw [kR,aa2 (by omega)])))};simp at b;refine sk (sq (rg [] rfl ?_));exact WP.ret (bf hT (by rfl) (by rw [kR,xw (by omega),aa2 (by omega)]))
theorem wo (a:Int) (n:Nat) (hn:1<=n/\n<=63) (sign:Bool):AC Tryz.prog T aH 248 [.int a,.int n,.bool sign] [] (.int (wI (fD (lD a n sign) 64))) []:=by
 refine aX Tryz.func248 ?_;refine sg rfl (sg rfl ?_);refine sq (sq (rg [] rfl ?_));refine bk (WP.loop (α:=Nat) (λk=>aN [(0,.int a),(1,.int n),(2,.bool sign),(7,.int (wI (fD (lD a n sign) k))),(8,.int k)] []) (λk=>k<=64) (λk=>64 - k) ?_ ?_)
 ·refine ⟨0,?_,?_⟩;{exact abq _};refine eX cX trivial
 rintro k hk;refine sq (sq (rg [] rfl ?_));refine cd rfl (λf=>?_) (λf=>?_);{(have b:k<64:=by simp at f;omega);have hb:=BI (lD a n sign) b;refine sk (sq (bk (sq (rg [] rfl ?_))));refine sq (sq (rg [] rfl ?_));refine cd rfl (λg=>?_) (λg=>?_);{(have c:k<n:=by simp at g;omega);have e:lD a n sign k=fM a k:=aa2 c;refine rgs [CG.pure (.int (oP a k))] rfl ?_ ?_;{have d:=o9 a k;exact au};refine rgs [CG.pure (.int (GU (wI (fD (lD a n sign) k)) k (oP a k)))] rfl ?_ ?_;{have d:=uV (wI (fD (lD a n sign) k)) k (oP a k);exact au};refine rg [] rfl ⟨k+1,?_,?_,?_⟩;{exact b};{refine eX ⟨cq,cq,cq,⟨rfl,_,rfl,ah (by rw [<- hb,e,lI a b])⟩,cq,tt⟩ trivial};(try simp only []);first | omega | grind};(have c:¬ k<n:=by simp at g;omega);refine sg rfl (cd rfl (λh=>?_) (λh=>?_));{(have i:IntKind.i64.wrap ((n:Int) - 1)=((n - 1:Nat):Int):=by rw [bK (by omega) (by omega)];omega);(have e:lD a n sign k=fM a (n - 1):=by rw [lD,xw c,h,adZ]);refine rgs [CG.pure (.int (oP a (n - 1:Nat)))] rfl ?_ ?_;{have d:=o9 a (n - 1:Nat);rw [<- i]at d ⊢;exact au};refine rgs [CG.pure (.int (GU (wI (fD (lD a n sign) k)) k (oP a (n - 1:Nat))))] rfl ?_ ?_;{have d:=uV (wI (fD (lD a n sign) k)) k (oP a (n - 1:Nat));exact au};refine rg [] rfl ⟨k+1,?_,?_,?_⟩;{exact b};{refine eX ⟨cq,cq,cq,⟨rfl,_,rfl,ah (by rw [<- hb,e,lI a (show n - 1<64 by omega)])⟩,cq,tt⟩ trivial};(try simp only []);first | omega | grind};(have e:lD a n sign k=false:=by rw [lD,xw c,h,aes]);refine sk (rgs [CG.pure (.int (GU (wI (fD (lD a n sign) k)) k 0))] rfl ?_ ?_);{have d:=uV (wI (fD (lD a n sign) k)) k 0;exact au};refine rg [] rfl ⟨k+1,?_,?_,?_⟩;{exact b};{refine eX ⟨cq,cq,cq,⟨rfl,_,rfl,ah (by rw [<- hb,e];rfl)⟩,cq,tt⟩ trivial};(try simp only []);first | omega | grind};(have b:k=64:=by simp at f;omega);refine xt (sq (rg [] rfl ?_));exact WP.ret (bf hT (by rfl) (by rw [b]))
theorem XL (op a b:Int) (h:21<=op/\op<=24):AC Tryz.prog T aH 250 [.int op,.int a,.int b] [] (.int (mg op a b)) []:=by
 refine aX Tryz.func250 ?_;refine sg rfl (sg rfl ?_);refine sq (sq (rg [] rfl ?_));refine bk (WP.loop (α:=Nat) (λk=>aN [(0,.int op),(1,.int a),(2,.int b),(7,.int (wI (fD (λk=>Dc op (fM a k) (fM b k)) k))),(8,.int k)] []) (λk=>k<=64) (λk=>64 - k) ?_ ?_)
 ·refine ⟨0,?_,?_⟩;{exact abq _};refine eX cX trivial
 rintro k hk;refine sq (sq (rg [] rfl ?_));refine cd rfl (λi=>?_) (λi=>?_);{(have c:k<64:=by simp at i;omega);have hb:=BI (λk=>Dc op (fM a k) (fM b k)) c;refine sk (sq (bk (sq (rgs [CG.pure (.int (oP a k)),CG.pure (.int (oP b k))] rfl ?_ ?_))));{have m:=o9 a k;have n:=o9 b k;exact au};refine sq ?_;obtain ⟨x,hx⟩:∃ x,fM a k=x:=⟨_,rfl⟩;obtain ⟨y,o⟩:∃ y,fM b k=y:=⟨_,rfl⟩;refine wT [(0,.int op),(1,.int a),(2,.int b),(7,.int (wI (fD (λk=>Dc op (fM a k) (fM b k)) k))),(8,.int k),(9,.int (jU x)),(10,.int (jU y))] [] ⟨cq,cq,cq,cq,cq,⟨rfl,_,rfl,ah (by rw [lI a c,hx])⟩,⟨rfl,_,rfl,ah (by rw [lI b c,o])⟩,tt⟩ trivial (rg [] rfl ?_);refine WP.seqJ (α:=Unit) (λ_=>aN [(0,.int op),(1,.int a),(2,.int b),(7,.int (wI (fD (λk=>Dc op (fM a k) (fM b k)) k))),(8,.int k),(11,.bool (Dc op x y))] []) (λ_=>True) ?_ ?_;{refine sg rfl (bk (sq (rg [] rfl ?_)));refine cd rfl (λj=>?_) (λj=>?_);{(have e:op=21:=by simpa using j);refine rg [] rfl ⟨(),?_,?_⟩;{trivial};refine eX ⟨cq,cq,cq,cq,cq,⟨rfl,_,rfl,ah (by rw [e];cases x <;> cases y <;> rfl)⟩,tt⟩ trivial};(have p:op≠21:=by simpa using j);refine sg rfl (cd rfl (λd=>?_) (λd=>?_));{(have e:op=22:=by simpa using d);refine rg [] rfl ⟨(),?_,?_⟩;{trivial};refine eX ⟨cq,cq,cq,cq,cq,⟨rfl,_,rfl,ah (by rw [e];cases x <;> cases y <;> rfl)⟩,tt⟩ trivial};(have q:op≠22:=by simpa using d);refine sg rfl (cd rfl (λf=>?_) (λf=>?_));{(have e:op=23:=by simpa using f);refine rg [] rfl ⟨(),?_,?_⟩;{trivial};refine eX ⟨cq,cq,cq,cq,cq,⟨rfl,_,rfl,ah (by rw [e];cases x <;> cases y <;> rfl)⟩,tt⟩ trivial};(have r:op≠23:=by simpa using f);refine sg rfl (cd rfl (λg=>?_) (λg=>?_));{(have e:op=24:=by simpa using g);refine rg [] rfl ⟨(),?_,?_⟩;{trivial};refine eX ⟨cq,cq,cq,cq,cq,⟨rfl,_,rfl,ah (by rw [e];cases x <;> cases y <;> rfl)⟩,tt⟩ trivial};(have s:op≠24:=by simpa using g);omega};rintro _ l;refine rgs [CG.pure (.int (jU (Dc op x y))),CG.pure (.int (GU (wI (fD (λk=>Dc op (fM a k) (fM b k)) k)) k (jU (Dc op x y))))] rfl ?_ ?_;{have m:=uU (Dc op x y);have n:=uV (wI (fD (λk=>Dc op (fM a k) (fM b k)) k)) k (jU (Dc op x y));exact au};refine rg [] rfl ⟨k+1,?_,?_,?_⟩;{exact c};{refine eX ⟨cq,cq,cq,⟨rfl,_,rfl,ah (by rw [<- hb,<- hx,<- o])⟩,cq,tt⟩ trivial};(try simp only []);first | omega | grind};(have c:k=64:=by simp at i;omega);refine xt (sq (rg [] rfl ?_));exact WP.ret (bf hT (by rfl) (by rw [c,aap h]))
theorem Z7 (b:Int):AC Tryz.prog T aH 252 [.int b] [] (.int (YP b)) []:=by
 refine aX Tryz.func252 ?_;refine sg rfl (sq (sq (rg [] rfl ?_)));refine cd rfl (λa=>?_) (λa=>?_)
 ·refine sg rfl (rX ?_);refine bf hT (by rfl) ?_;simp at a;unfold YP;split <;> omega
 refine sk (sq (rg [] rfl ?_));refine rX ?_;refine bf hT (by rfl) ?_;simp at a;unfold YP;split <;> omega
theorem D7 (a b:Int) (z:Bool) (hb : -64<=b/\b<=64):AC Tryz.prog T aH 251 [.int a,.int b,.int (jU z)] [] (.int (wI (fD (vN a b z) 64))) []:=by
 refine aX Tryz.func251 ?_;refine sg rfl (sg rfl ?_);refine sq (sq (rg [] rfl ?_));refine bk (WP.loop (α:=Nat) (λk=>aN [(0,.int a),(1,.int b),(2,.int (jU z)),(7,.int (wI (fD (vN a b z) k))),(8,.int k)] []) (λk=>k<=64) (λk=>64 - k) ?_ ?_)
 ·refine ⟨0,?_,?_⟩;{exact abq _};refine eX cX trivial
 rintro k hk;refine sq (sq (rg [] rfl ?_));refine cd rfl (λg=>?_) (λg=>?_);{(have c:k<64:=by simp at g;omega);have hw:=BI (vN a b z) c;have f:IntKind.i64.wrap ((k:Int) - b)=(k:Int) - b:=bK (by omega) (by omega);refine sk (sq (bk (sq (rg [] rfl ?_))));refine sq (sq (rg [] rfl ?_));refine cd rfl (λe=>?_) (λe=>?_);{(have d:0<=(k:Int) - b/\(k:Int) - b<64:=by simp only [band,f]at e;simpa using e);(have j:(k:Int) - b=(((k:Int) - b).toNat:Int):=by omega);have i:vN a b z k=fM a ((k:Int) - b).toNat:=aa2 d;refine rgs [CG.pure (.int (oP a ((k:Int) - b).toNat))] rfl ?_ ?_;{have h:=o9 a ((k:Int) - b).toNat;rw [<- j,<- f]at h;exact au};refine rgs [CG.pure (.int (GU (wI (fD (vN a b z) k)) k (oP a ((k:Int) - b).toNat)))] rfl ?_ ?_;{have h:=uV (wI (fD (vN a b z) k)) k (oP a ((k:Int) - b).toNat);exact au};refine rg [] rfl ⟨k+1,?_,?_,?_⟩;{exact c};{refine eX ⟨cq,cq,cq,⟨rfl,_,rfl,ah (by rw [<- hw,i,lI a (by omega)])⟩,cq,tt⟩ trivial};(try simp only []);first | omega | grind};(have d:¬ (0<=(k:Int) - b/\(k:Int) - b<64):=by simp only [band,f]at e;simpa using e);have i:vN a b z k=z:=xw d;refine sk (rgs [CG.pure (.int (GU (wI (fD (vN a b z) k)) k (jU z)))] rfl ?_ ?_);{have h:=uV (wI (fD (vN a b z) k)) k (jU z);exact au};refine rg [] rfl ⟨k+1,?_,?_,?_⟩;{exact c};{refine eX ⟨cq,cq,cq,⟨rfl,_,rfl,ah (by rw [<- hw,i])⟩,cq,tt⟩ trivial};(try simp only []);first | omega | grind};(have c:k=64:=by simp at g;omega);refine xt (sq (rg [] rfl ?_));exact WP.ret (bf hT (by rfl) (by rw [c]))
theorem NT (a b:Int) (r:oD a) (hb:oD b):AC Tryz.prog T aH 249 [.int a,.int b] [] (.tup [.int (wI (oG a b)),.v (.int .u64 (wO a b))]) []:=by
 refine aX Tryz.func249 ?_;refine sg rfl (sg rfl ?_);refine sg rfl (sq (sq (rg [] rfl ?_)));refine bk (WP.loop (α:=Nat) (λm=>aN [(0,.int a),(1,.int b),(6,.int (ZC a b m).1),(7,.v (.int .u64 (ZC a b m).2)),(8,.int (63 - (m:Int)))] []) (λm=>m<=64) (λm=>64 - m) ?_ ?_)
 ·refine ⟨0,?_,?_⟩;{exact abq _};refine eX cX trivial
 rintro m hm;refine sq (sq (rg [] rfl ?_));refine cd rfl (λk=>?_) (λk=>?_);{(have c:m<64:=by simp at k;omega);(have q:63 - (m:Int)=((63 - m:Nat):Int):=by omega);(have j:IntKind.i64.wrap (63 - (m:Int) - 1)=63 - ((m+1:Nat):Int):=by rw [bK (by omega) (by omega)];omega);have e:ZC a b (m+1)=tK a b (63 - m) (ZC a b m):=rfl;obtain ⟨s,p⟩:∃ s,ZC a b m=s:=⟨_,rfl⟩;rw [p]at e ⊢;refine sk (sq (bk (sq (rg [] rfl ?_))));refine sg rfl (sq (sq (rgs [CG.pure (.int (oP b (63 - m:Nat)))] rfl ?_ ?_)));{have t:=o9 b (63 - m:Nat);rw [<- q]at t;exact au};refine cd rfl (λi=>?_) (λi=>?_);{(have f:fM b (63 - m)=false:=by rw [lI b (show 63 - m<64 by omega)]at i;cases o:fM b (63 - m)with| false=>rfl| true=>(rw [o]at i;cases i));refine xt (rg [] rfl ?_);refine ⟨m+1,?_,?_,?_⟩;{exact c};{refine eX ⟨cq,cq,⟨rfl,_,rfl,ah (by rw [e,tK,aa2 f] <;> rfl)⟩,⟨rfl,_,rfl,ah (by rw [e,tK,aa2 f] <;> rfl)⟩,⟨rfl,_,rfl,ah (by rw [j])⟩,tt⟩ trivial};(try simp only []);first | omega | grind};(have f:¬ fM b (63 - m)=false:=by rw [lI b (show 63 - m<64 by omega)]at i;intro o;rw [o]at i;cases i);refine sk (sq (sq ?_));rw [lI b (show 63 - m<64 by omega)];refine rg [] rfl (cd rfl (λn=>?_) (λn=>?_));{(have d:63 - m=63:=by simp at n;omega);refine sg rfl (sg rfl ?_);refine sg rfl (sq (sq (rg [] rfl ?_)));refine cd rfl (λg=>?_) (λg=>?_);{(have hl:wU (s.2*2)<wU a:=by simpa using g);refine rg [] rfl (xt (rg [] rfl ?_));refine ⟨m+1,?_,?_,?_⟩;{exact c};{refine eX ⟨cq,cq,⟨rfl,_,rfl,ah (by rw [e,tK,xw f,aa2 d,aa2 hl] <;> rfl)⟩,⟨rfl,_,rfl,ah (by rw [e,tK,xw f,aa2 d,aa2 hl] <;> rfl)⟩,⟨rfl,_,rfl,ah (by rw [j])⟩,tt⟩ trivial};(try simp only []);first | omega | grind};(have hl:¬ wU (s.2*2)<wU a:=by simpa using g);refine sk (xt (rg [] rfl ?_));refine ⟨m+1,?_,?_,?_⟩;{exact c};{refine eX ⟨cq,cq,⟨rfl,_,rfl,ah (by rw [e,tK,xw f,aa2 d,xw hl] <;> rfl)⟩,⟨rfl,_,rfl,ah (by rw [e,tK,xw f,aa2 d,xw hl] <;> rfl)⟩,⟨rfl,_,rfl,ah (by rw [j])⟩,tt⟩ trivial};(try simp only []);first | omega | grind};(have d:¬ 63 - m=63:=by simp at n;omega);refine sk (sq (rg [] rfl ?_));refine sg rfl (sg rfl ?_);refine sg rfl (cd rfl (λh=>?_) (λh=>?_));{(have hl:wU (wU (s.2*2)+wU a)<wU (s.2*2):=by simpa using h);refine rg [] rfl (rg [] rfl ?_);refine ⟨m+1,?_,?_,?_⟩;{exact c};{refine eX ⟨cq,cq,⟨rfl,_,rfl,ah (by rw [e,tK,xw f,xw d,aa2 hl] <;> rfl)⟩,⟨rfl,_,rfl,ah (by rw [e,tK,xw f,xw d,aa2 hl] <;> rfl)⟩,⟨rfl,_,rfl,ah (by rw [j])⟩,tt⟩ trivial};(try simp only []);first | omega | grind};(have hl:¬ wU (wU (s.2*2)+wU a)<wU (s.2*2):=by simpa using h);refine sk (rg [] rfl ?_);refine ⟨m+1,?_,?_,?_⟩;{exact c};{refine eX ⟨cq,cq,⟨rfl,_,rfl,ah (by rw [e,tK,xw f,xw d,xw hl] <;> rfl)⟩,⟨rfl,_,rfl,ah (by rw [e,tK,xw f,xw d,xw hl] <;> rfl)⟩,⟨rfl,_,rfl,ah (by rw [j])⟩,tt⟩ trivial};(try simp only []);first | omega | grind};(have c:m=64:=by simp at k;omega);refine xt (sq (rg [] rfl ?_));refine rX ?_;subst c;rw [Nh r hb];exact aJ hT [] (ts:=[(4,.int (wI (oG a b))),(5,.v (.int .u64 (wO a b)))]) (l:=[.int (wI (oG a b)),.v (.int .u64 (wO a b))]) trivial ⟨⟨rfl,_,rfl,ah rfl⟩,⟨rfl,_,rfl,ah rfl⟩,tt⟩ trivial rfl rfl rfl
theorem aaj (a:Int):wI (-1 - a)=bX .i64 (-1) a:=by
 have b:=sG a;rw [aaW];refine aaC (qc _) (qc _) ?_;rw [BJ,Gi (Nat.xor_lt_two_pow (sG _) b),show uN (-1)=2 ^ 64 - 1 from rfl,show uN (-1 - a)=2 ^ 64 - (uN a+1) by have d:=nH (-1 - a);have e:=nH a;omega];refine Nat.eq_of_testBit_eq λj=>?_;rw [aeY b,Nat.testBit_xor,Nat.testBit_two_pow_sub_one];by_cases c:j<64
 ·rw [adx c];cases (uN a).testBit j <;> rfl
 rw [acB c,aek (adG b (aed (by decide) (by omega)))];rfl
theorem abm (b:Bool):0<=jU b/\jU b<=1:=by cases b <;> decide
theorem ZV (op a:Int):AC Tryz.prog T aH 207 [.int op,.int a] [] (.int (lJ op a)) []:=by
 refine aX Tryz.func207 ?_;refine sg rfl (sq (sq (rg [] rfl ?_)));refine bk (sq (rg [] rfl ?_));refine cd rfl (λh2=>?_) (λh2=>?_)
 ·(have e:op=1:=by simpa using h2);subst e;exact sg rfl (WP.ret (bf hT (by rfl) (by rw [show lJ 1 a=wI (0 - a)from rfl,Int.zero_sub])))
 (have n1:op≠1:=by simpa using h2);refine sg rfl (cd rfl (λh4=>?_) (λh4=>?_));{(have e:op=2:=by simpa using h4);subst e;exact sg rfl (WP.ret (bf hT (by rfl) (aaj a)))};(have n2:op≠2:=by simpa using h4);refine sg rfl (cd rfl (λh6=>?_) (λh6=>?_));{(have e:op=3:=by simpa using h6);subst e;refine sq (sq (rg [] rfl ?_));refine cd rfl (λh7=>?_) (λh7=>?_);{refine sg rfl (rX ?_);(have ha:¬ 0<=a:=by simp at h7;omega);exact bf hT (by rfl) (by rw [show lJ 3 a=(if 0<=a then a else wI (0 - a))from rfl,xw ha,Int.zero_sub])};refine sk (sq (rg [] rfl ?_));refine rX ?_;(have ha:0<=a:=by simp at h7;omega);exact bf hT (by rfl) (by rw [show lJ 3 a=(if 0<=a then a else wI (0 - a))from rfl,aa2 ha])};(have n3:op≠3:=by simpa using h6);refine sg rfl (cd rfl (λl=>?_) (λl=>?_));{(have e:op=4:=by simpa using l);subst e;refine sg rfl (sq (sq (rg [] rfl ?_)));refine bk (WP.loop (α:=Nat) (λk=>aN [(1,.int a),(5,.int (wH (fM a) k)),(6,.int k)] []) (λk=>k<=64) (λk=>64 - k) ?_ ?_);{refine ⟨0,?_,?_⟩;{exact abq _};refine eX cX trivial};rintro k hk;refine sq (sq (rg [] rfl ?_));refine cd rfl (λn=>?_) (λn=>?_);{(have b:k<64:=by simp at n;omega);refine sk (sq (bk (rgs [CG.pure (.int (oP a k))] rfl ?_ ?_)));{have h:=o9 a k;exact au};refine rg [] rfl ⟨k+1,?_,?_,?_⟩;{exact b};{refine eX ⟨cq,⟨rfl,_,rfl,ah (by have hp:=LH (fM a) k;have hy:=abm (fM a k);rw [lI a b,bK (by omega) (by omega),wH,jU];cases fM a k <;> rfl)⟩,cq,tt⟩ trivial};(try simp only []);first | omega | grind};(have b:k=64:=by simp at n;omega);refine xt (sq (rg [] rfl ?_));refine rX ?_;exact bf hT (by rfl) (by rw [b];exact XY a)};(have n4:op≠4:=by simpa using l);refine sg rfl (cd rfl (λo=>?_) (λo=>?_));{(have e:op=5:=by simpa using o);subst e;refine sg rfl (sq (sq (rg [] rfl ?_)));refine bk (WP.loop (α:=Nat) (λm=>aN [(1,.int a),(7,.int m),(8,.int (63 - (m:Int)))] []) (λm=>m<=64/\Fp a (64 - m)+m=Fp a 64) (λm=>64 - m) ?_ ?_);{refine ⟨0,?_,?_⟩;{exact ⟨abq _,rfl⟩};refine eX cX trivial};rintro m ⟨hm,i⟩;refine sq (sq (rgs [CG.pure (.int (oP a (63 - (m:Int))))] rfl ?_ ?_));{have h:=o9 a (63 - (m:Int));exact au};refine cd rfl (λf=>?_) (λf=>?_);{(have z:m<64/\oP a (63 - (m:Int))=0:=by simp only [band]at f;(have:63 - (m:Int)>=0/\oP a (63 - (m:Int))=0:=by simpa using f);exact ⟨by omega,this.2⟩);obtain ⟨d,hb⟩:=z;rw [show 63 - (m:Int)=((63 - m:Nat):Int) by omega,lI a (by omega)]at hb;(have c:fM a (63 - m)=false:=by cases hx:fM a (63 - m)with | false=>rfl | true=>rw [hx]at hb;cases hb);rw [show 64 - m=(63 - m)+1 by omega,Fp,xw (by rw [c];decide)]at i;refine sk (sq (bk (rg [] rfl ?_)));refine rg [] rfl ⟨m+1,?_,?_,?_⟩;{exact ⟨d,by rw [<- i,show 64 - (m+1)=63 - m by omega];omega⟩};{refine eX ⟨cq,cq,⟨rfl,_,rfl,ah (by rw [bK (by omega) (by omega)];congr 2;omega)⟩,tt⟩ trivial};(try simp only []);first | omega | grind};(have z:Fp a (64 - m)=0:=by rcases adv m 64 with h1 | h1;{(have hb:oP a (63 - (m:Int))≠0:=by intro e;rw [e,show decide (63 - (m:Int)>=0)=true from adx (by omega)]at f;cases f);rw [show 63 - (m:Int)=((63 - m:Nat):Int) by omega,lI a (by omega)]at hb;(have c:fM a (63 - m)=true:=by cases hx:fM a (63 - m)with | true=>rfl | false=>rw [hx]at hb;exact absurd rfl hb);rw [show 64 - m=(63 - m)+1 by omega,Fp,aa2 c]};rw [show 64 - m=0 by omega,Fp]);rw [z,ada]at i;refine xt (sq (rg [] rfl ?_));refine rX ?_;exact bf hT (by rfl) (by rw [i];exact Yl a)};(have n5:op≠5:=by simpa using o);refine sg rfl (cd rfl (λp=>?_) (λp=>?_));{(have e:op=6:=by simpa using p);subst e;refine sg rfl (sq (sq (rg [] rfl ?_)));refine bk (WP.loop (α:=Nat) (λm=>aN [(1,.int a),(9,.int m),(10,.int m)] []) (λm=>m<=64/\Aq a (64 - m)+m=Aq a 64) (λm=>64 - m) ?_ ?_);{refine ⟨0,?_,?_⟩;{exact ⟨abq _,rfl⟩};refine eX cX trivial};rintro m ⟨hm,i⟩;refine sq (sq (rgs [CG.pure (.int (oP a m))] rfl ?_ ?_));{have h:=o9 a m;exact au};refine cd rfl (λg=>?_) (λg=>?_);{(have z:m<64/\oP a m=0:=by simp only [band]at g;(have:(m:Int)<64/\oP a m=0:=by simpa using g);exact ⟨by omega,this.2⟩);obtain ⟨d,hb⟩:=z;rw [lI a d]at hb;(have c:fM a m=false:=by cases hx:fM a m with | false=>rfl | true=>rw [hx]at hb;cases hb);rw [show 64 - m=(63 - m)+1 by omega,Aq,show 63 - (63 - m)=m by omega,xw (by rw [c];decide)]at i;refine sk (sq (bk (rg [] rfl ?_)));refine rg [] rfl ⟨m+1,?_,?_,?_⟩;{exact ⟨d,by rw [<- i,show 64 - (m+1)=63 - m by omega];omega⟩};{refine eX cX trivial};(try simp only []);first | omega | grind};(have z:Aq a (64 - m)=0:=by rcases adv m 64 with h1 | h1;{(have hb:oP a m≠0:=by intro e;rw [e,show decide ((m:Int)<64)=true from adx (by omega)]at g;cases g);rw [lI a h1]at hb;(have c:fM a m=true:=by cases hx:fM a m with | true=>rfl | false=>rw [hx]at hb;exact absurd rfl hb);rw [show 64 - m=(63 - m)+1 by omega,Aq,show 63 - (63 - m)=m by omega,aa2 c]};rw [show 64 - m=0 by omega,Aq]);rw [z,ada]at i;refine xt (sq (rg [] rfl ?_));refine rX ?_;exact bf hT (by rfl) (by rw [i];exact Jt a)};(have n6:op≠6:=by simpa using p);refine sg rfl (cd rfl (λq=>?_) (λq=>?_));{(have e:op=7:=by simpa using q);subst e;refine sg rfl (sq (sq (rg [] rfl ?_)));refine bk (WP.loop (α:=Nat) (λk=>aN [(1,.int a),(11,.int (wI (fD (λk=>fM a (63 - k)) k))),(12,.int k)] []) (λk=>k<=64) (λk=>64 - k) ?_ ?_);{refine ⟨0,?_,?_⟩;{exact abq _};refine eX cX trivial};rintro k hk;refine sq (sq (rg [] rfl ?_));refine cd rfl (λr=>?_) (λr=>?_);{(have b:k<64:=by simp at r;omega);have hw:=BI (λk=>fM a (63 - k)) b;obtain ⟨j,hj⟩:∃ j,63 - k=j:=⟨_,rfl⟩;(have e1:IntKind.i64.wrap (63 - (k:Int))=(j:Int):=by rw [bK (by omega) (by omega)];omega);(have a0:j<64:=by omega);simp only [hj]at hw;refine sk (sq (bk (rgs [CG.pure (.int (oP a j)),CG.pure (.int (GU (wI (fD (λk=>fM a (63 - k)) k)) k (oP a j)))] rfl ?_ ?_)));{have a8:=o9 a j;have a9:=uV (wI (fD (λk=>fM a (63 - k)) k)) k (oP a j);(have a1:AC Tryz.prog T aH 245 [.int a,.int (IntKind.i64.wrap (63 - (k:Int)))] [] (.int (oP a j)) []:=by rw [e1];exact a8);simp only [ay,under,CG.pure];(repeat' with_reducible refine And.intro ?_ ?_);(all_goals (try with_reducible intros));all_goals (first | exact trivial | assumption | omega | exact a1 | exact a9 | (simp;done) | grind)};refine rg [] rfl ⟨k+1,?_,?_,?_⟩;{exact b};{refine eX ⟨cq,⟨rfl,_,rfl,ah (by rw [<- hw,lI a a0])⟩,cq,tt⟩ trivial};(try simp only []);first | omega | grind};(have b:k=64:=by simp at r;omega);refine xt (sq (rg [] rfl ?_));refine rX ?_;exact bf hT (by rfl) (by rw [b,YK a];simp [lJ])};(have n7:op≠7:=by simpa using q);refine sg rfl (cd rfl (λs=>?_) (λs=>?_));{(have e:op=8:=by simpa using s);subst e;refine sq (rgs [CG.pure (.int (jU (a != 0)))] rfl ?_ ?_);{have h:=uU (a != 0);exact au};exact WP.ret (bf hT (by rfl) rfl)};(have n8:op≠8:=by simpa using s);refine sg rfl (cd rfl (λt=>?_) (λt=>?_));{(have e:op=9:=by simpa using t);subst e;refine sq (rgs [CG.pure (.int (jU (a==0)))] rfl ?_ ?_);{have h:=uU (a==0);exact au};exact WP.ret (bf hT (by rfl) rfl)};(have n9:op≠9:=by simpa using t);refine sg rfl (cd rfl (λu=>?_) (λu=>?_));{(have e:op=10:=by simpa using u);subst e;refine sq (rgs [CG.pure (.int (wI (fD (lD a 8 true) 64)))] rfl ?_ ?_);{have h:=wo a 8 (by decide) true;exact au};exact WP.ret (bf hT (by rfl) (wX a).1)};(have n10:op≠10:=by simpa using u);refine sg rfl (cd rfl (λv=>?_) (λv=>?_));{(have e:op=11:=by simpa using v);subst e;refine sq (rgs [CG.pure (.int (wI (fD (lD a 16 true) 64)))] rfl ?_ ?_);{have h:=wo a 16 (by decide) true;exact au};exact WP.ret (bf hT (by rfl) (wX a).2.1)};(have n11:op≠11:=by simpa using v);refine sg rfl (cd rfl (λw=>?_) (λw=>?_));{(have e:op=12:=by simpa using w);subst e;refine sq (rgs [CG.pure (.int (wI (fD (lD a 32 true) 64)))] rfl ?_ ?_);{have h:=wo a 32 (by decide) true;exact au};exact WP.ret (bf hT (by rfl) (wX a).2.2.1)};(have n12:op≠12:=by simpa using w);refine sg rfl (cd rfl (λx=>?_) (λx=>?_));{(have e:op=13:=by simpa using x);subst e;refine sq (rgs [CG.pure (.int (wI (fD (lD a 8 false) 64)))] rfl ?_ ?_);{have h:=wo a 8 (by decide) false;exact au};exact WP.ret (bf hT (by rfl) (wX a).2.2.2.1)};(have n13:op≠13:=by simpa using x);refine sg rfl (cd rfl (λy=>?_) (λy=>?_));{(have e:op=14:=by simpa using y);subst e;refine sq (rgs [CG.pure (.int (wI (fD (lD a 16 false) 64)))] rfl ?_ ?_);{have h:=wo a 16 (by decide) false;exact au};exact WP.ret (bf hT (by rfl) (wX a).2.2.2.2.1)};(have n14:op≠14:=by simpa using y);refine sk (sq (rgs [CG.pure (.int (wI (fD (lD a 32 false) 64)))] rfl ?_ ?_));{have h:=wo a 32 (by decide) false;exact au};refine rX ?_;refine bf hT (by rfl) ?_;rw [(wX a).2.2.2.2.2];simp [lJ,n1,n2,n3,n4,n5,n6,n7,n8,n9,n10,n11,n12,n13,n14]
theorem XD (op a b:Int) (h:29<=op/\op<=36) (o:oD a) (hb:oD b):AC Tryz.prog T aH 253 [.int op,.int a,.int b] [] (.int (mg op a b)) []:=by
 refine aX Tryz.func253 ?_;refine sg rfl (sq (sq (rg [] rfl ?_)));refine bk (sq (rg [] rfl ?_));refine cd rfl (λk=>?_) (λk=>?_)
 ·(have e:op=29:=by simpa using k);subst e;refine sq (rgs [CG.pure (.int (jU (a==b)))] rfl ?_ ?_);{have j:=uU (a==b);exact au};exact WP.ret (bf hT (by rfl) rfl)
 (have n29:op≠29:=by simpa using k);refine sg rfl (cd rfl (λl=>?_) (λl=>?_));{(have e:op=30:=by simpa using l);subst e;refine sq (rgs [CG.pure (.int (jU (a != b)))] rfl ?_ ?_);{have j:=uU (a != b);exact au};exact WP.ret (bf hT (by rfl) rfl)};(have n30:op≠30:=by simpa using l);refine sg rfl (cd rfl (λm=>?_) (λm=>?_));{(have e:op=31:=by simpa using m);subst e;refine sq (rgs [CG.pure (.int (jU (decide (a<b))))] rfl ?_ ?_);{have j:=uU (decide (a<b));exact au};exact WP.ret (bf hT (by rfl) rfl)};(have n31:op≠31:=by simpa using m);refine sg rfl (cd rfl (λn=>?_) (λn=>?_));{(have e:op=32:=by simpa using n);subst e;refine sq (rgs [CG.pure (.int (jU (decide (a<=b))))] rfl ?_ ?_);{have j:=uU (decide (a<=b));exact au};exact WP.ret (bf hT (by rfl) rfl)};(have n32:op≠32:=by simpa using n);refine sg rfl (cd rfl (λc=>?_) (λc=>?_));{(have e:op=33:=by simpa using c);subst e;refine sq (rgs [CG.pure (.int (jU (decide (wU a<wU b))))] rfl ?_ ?_);{have j:=uU (decide (wU a<wU b));exact au};exact WP.ret (bf hT (by rfl) rfl)};(have n33:op≠33:=by simpa using c);refine sg rfl (cd rfl (λd=>?_) (λd=>?_));{(have e:op=34:=by simpa using d);subst e;refine sq (sq (rg [] rfl ?_));refine cd rfl (λf=>?_) (λf=>?_);{refine sg rfl (rX ?_);(have hx:b<a:=by simpa using f);exact bf hT (by rfl) (by rw [show mg 34 a b=(if b<a then b else a)from rfl,aa2 hx])};refine sk (sq (rg [] rfl ?_));refine rX ?_;(have hx:¬ b<a:=by simpa using f);exact bf hT (by rfl) (by rw [show mg 34 a b=(if b<a then b else a)from rfl,xw hx])};(have n34:op≠34:=by simpa using d);refine sg rfl (cd rfl (λg=>?_) (λg=>?_));{(have e:op=35:=by simpa using g);subst e;refine sq (sq (rg [] rfl ?_));refine cd rfl (λi=>?_) (λi=>?_);{refine sg rfl (rX ?_);(have hx:b>a:=by simpa using i);exact bf hT (by rfl) (by rw [show mg 35 a b=(if b>a then b else a)from rfl,aa2 hx])};refine sk (sq (rg [] rfl ?_));refine rX ?_;(have hx:¬ b>a:=by simpa using i);exact bf hT (by rfl) (by rw [show mg 35 a b=(if b>a then b else a)from rfl,xw hx])};(have n35:op≠35:=by simpa using g);refine sk (sq (rgs [CG.pure (.tup [.int (wI (oG a b)),.v (.int .u64 (wO a b))])] rfl ?_ ?_));{have j:=NT a b o hb;exact au};refine sg rfl (rX ?_);(obtain rfl:op=36:=by omega);exact bf hT (by rfl) rfl
def yZ (op a b:Int):Int×Int:=if op=19\/op=20 then yA op a b else if 25<=op/\op<=27 then NJ op a b else (mg op a b,0)
theorem aao {a b:Int} (d:oD a) (hb:oD b):wI (wO a b)=wI (a*b):=by
 have c:=(Qi (b:=b) d 64 (abd _)).2;rw [Nq hb,Nh d hb]at c;simp only at c;rw [c,wI,wI,IntKind.wrap_i64,IntKind.wrap_i64];omega
theorem abw (x:Int):(0<=x/\x.tmod 64=x % 64)\/(x<0/\x.tmod 64 = -((-x) % 64)):=by
 rcases Int.lt_or_le x 0 with h | h
 ·have c:=Int.tmod_eq_emod_of_nonneg (a := -x) (b:=64) (by omega);rw [Int.neg_tmod]at c;exact .inr ⟨h,by omega⟩
 exact .inl ⟨h,Int.tmod_eq_emod_of_nonneg h⟩
theorem ab7 {a b:Int} (j:oD a) (m:b≠0) (n:b ≠ -1):oD (a.tdiv b)/\oD (a.tdiv b*b)/\a.tmod b=a - a.tdiv b*b:=by
 have e:=Int.tmod_def a b;rw [Int.mul_comm]at e;obtain ⟨g1,g⟩:=j;have hm:=Int.natAbs_tmod a b;have hd:(a.tdiv b).natAbs=a.natAbs / b.natAbs:=Int.natAbs_tdiv a b;have d:a.natAbs % b.natAbs<=a.natAbs:=Nat.mod_le _ _;have f:(0<=a->0<=a.tmod b)/\(a<=0->a.tmod b<=0):=by refine ⟨λh=>ae6 b h,λh=>?_⟩;have c:=ae6 b (a := -a) (by omega);rw [Int.neg_tmod]at c;omega
 refine ⟨?_,?_,e⟩
 ·rcases adv b.natAbs 2 with c | c;{(obtain rfl:b=1:=by omega);rw [Int.tdiv_one];exact ⟨g1,g⟩};have i:a.natAbs / b.natAbs<=a.natAbs / 2:=Nat.div_le_div_left c (by decide);rw [<- hd]at i;clear hm d hd f e;constructor <;> omega
 obtain ⟨k,l⟩:=f;rcases Int.le_total 0 a with h | h;{have:=k h;constructor <;> omega};have:=l h;constructor <;> omega
theorem ZQ (op a b:Int) (h:16<=op/\op<=36) (ha:oD a) (hb:oD b):AC Tryz.prog T aH 208 [.int op,.int a,.int b] [] (.tup [.int (yZ op a b).1,.int (yZ op a b).2]) []:=by
 refine aX Tryz.func208 ?_;refine sg rfl (sq (sq (rg [] rfl ?_)));refine bk (sq (rg [] rfl ?_));refine cd rfl (λh2=>?_) (λh2=>?_)
 ·(have e:op=16:=by simpa using h2);subst e;exact sg rfl (WP.ret (ku (by rfl) (by rfl) rfl rfl))
 (have n16:op≠16:=by simpa using h2);refine sg rfl (cd rfl (λh4=>?_) (λh4=>?_));{(have e:op=17:=by simpa using h4);subst e;exact sg rfl (WP.ret (ku (by rfl) (by rfl) rfl rfl))};(have n17:op≠17:=by simpa using h4);refine sg rfl (cd rfl (λh6=>?_) (λh6=>?_));{(have e:op=18:=by simpa using h6);subst e;refine sq (rgs [CG.pure (.tup [.int (wI (oG a b)),.v (.int .u64 (wO a b))])] rfl ?_ ?_);{have hq:=NT a b ha hb;exact au};refine sg rfl (rX ?_);refine ku (by rfl) (by rfl) rfl ?_;rw [show yZ 18 a b=(wI (a*b),0)from rfl,<- aao ha hb]};(have n18:op≠18:=by simpa using h6);refine WP.seqJ (α:=Bool) (λd=>aN [(0,.int op),(1,.int a),(2,.int b),(12,.int op),(33,.bool d)] []) (λd=>d=decide (op=19\/op=20)) ?_ ?_;{refine sg rfl (cd rfl (λh9=>?_) (λh9=>?_));{(have e19:op=19:=by simpa using h9);refine sk ⟨(op==19),?_,?_⟩;{rw [acs];simp;omega};refine eX cX trivial};(have n19:op≠19:=by simpa using h9);refine rg [] rfl ⟨(op==20),?_,?_⟩;{rw [acs];simp;omega};refine eX cX trivial};rintro d hd;refine cd rfl (λp=>?_) (λp=>?_);{(have c0:op=19\/op=20:=by rw [p]at hd;simpa using hd.symm);have i:yZ op a b=yA op a b:=aa2 c0;refine sq (sq (rg [] rfl ?_));refine cd rfl (λq=>?_) (λq=>?_);{(have c:b=0:=by simpa using q);exact sg rfl (WP.ret (ku (by rfl) (by rfl) rfl (by rw [i,yA,aa2 c])))};(have c:b≠0:=by simpa using q);refine sk (sq (sq (rg [] rfl ?_)));refine cd rfl (λr=>?_) (λr=>?_);{(have f:b = -1:=by simpa using r);refine sq (sq (rg [] rfl ?_));refine cd rfl (λs=>?_) (λs=>?_);{(have e19:op=19:=by simpa using s);refine sg rfl (rX ?_);refine ku (by rfl) (by rfl) rfl ?_;rw [i,yA,xw c,aa2 ⟨e19,f⟩,Int.zero_sub]};(have n19:op≠19:=by simpa using s);refine sk (sq (rg [] rfl ?_));exact WP.ret (ku (by rfl) (by rfl) rfl (by rw [i,yA,xw c,xw (λh=>n19 h.1),xw n19,aa2 f]))};(have f:b ≠ -1:=by simpa using r);obtain ⟨d1,d2,d3⟩:=ab7 ha c f;refine sk (sq (sq (rg [] rfl ?_)));refine cd rfl (λt=>?_) (λt=>?_);{(have e19:op=19:=by simpa using t);refine sq (rgs [] rfl ?_ ?_);{exact au};exact WP.ret (ku (by rfl) (by rfl) rfl (by rw [i,yA,xw c,xw (λh=>f h.2),aa2 e19]))};(have n19:op≠19:=by simpa using t);refine sk (sq (rgs [] rfl ?_ ?_));{exact au};refine rX ?_;refine ku (by rfl) (by rfl) rfl ?_;rw [i,yA,xw c,xw (λh=>f h.2),xw n19,xw f];show (IntKind.i64.wrap (a - IntKind.i64.wrap (IntKind.i64.wrap (a.tdiv b)*b)),(0:Int))=_;rw [bK d1.1 (by have:=d1.2;omega),bK d2.1 (by have:=d2.2;omega),<- d3,bK];{have:=Int.natAbs_tmod a b;have c2:a.natAbs % b.natAbs<=a.natAbs:=Nat.mod_le _ _;obtain ⟨g1,g2⟩:=ha;have hs:=λh=>ae6 b (a := -a) h;rw [Int.neg_tmod]at hs;rcases Int.le_total 0 a with h | h;{have:=ae6 b h;omega};omega};have:=Int.natAbs_tmod a b;have c2:a.natAbs % b.natAbs<=a.natAbs:=Nat.mod_le _ _;obtain ⟨g1,g2⟩:=ha;have hs:=λh=>ae6 b (a := -a) h;rw [Int.neg_tmod]at hs;rcases Int.le_total 0 a with h | h;{omega};have:=hs (by omega);omega};(have a9:¬ (op=19\/op=20):=by rw [p]at hd;simpa using hd.symm);refine WP.seqJ (α:=Bool) (λd=>aN [(0,.int op),(1,.int a),(2,.int b),(12,.int op),(56,.bool d)] []) (λd=>d=decide (21<=op/\op<=24)) ?_ ?_;{refine sg rfl (cd rfl (λu=>?_) (λu=>?_));{(have d4:op=21:=by simpa using u);refine sk ⟨(op==21),?_,?_⟩;{rw [acs];simp;omega};refine eX cX trivial};(have n21:op≠21:=by simpa using u);refine sg rfl (cd rfl (λw=>?_) (λw=>?_));{(have d5:op=22:=by simpa using w);refine sk ⟨(op==22),?_,?_⟩;{rw [acs];simp;omega};refine eX cX trivial};(have n22:op≠22:=by simpa using w);refine sg rfl (cd rfl (λx=>?_) (λx=>?_));{(have d6:op=23:=by simpa using x);refine sk ⟨(op==23),?_,?_⟩;{rw [acs];simp;omega};refine eX cX trivial};(have n23:op≠23:=by simpa using x);refine rg [] rfl ⟨(op==24),?_,?_⟩;{rw [acs];simp;omega};refine eX cX trivial};rintro d l;refine cd rfl (λy=>?_) (λy=>?_);{(have c1:21<=op/\op<=24:=by rw [y]at l;simpa using l.symm);refine sq (rgs [CG.pure (.int (mg op a b))] rfl ?_ ?_);{have hq:=XL op a b c1;exact au};exact WP.ret (ku (by rfl) (by rfl) rfl (by rw [yZ,xw a9,xw (by omega)]))};(have e3:¬ (21<=op/\op<=24):=by rw [y]at l;simpa using l.symm);refine WP.seqJ (α:=Bool) (λd=>aN [(0,.int op),(1,.int a),(2,.int b),(12,.int op),(65,.bool d)] []) (λd=>d=decide (25<=op/\op<=27)) ?_ ?_;{refine sg rfl (cd rfl (λz=>?_) (λz=>?_));{(have b0:op=25:=by simpa using z);refine sk ⟨(op==25),?_,?_⟩;{rw [acs];simp;omega};refine eX cX trivial};(have n25:op≠25:=by simpa using z);refine sg rfl (cd rfl (λa0=>?_) (λa0=>?_));{(have b1:op=26:=by simpa using a0);refine sk ⟨(op==26),?_,?_⟩;{rw [acs];simp;omega};refine eX cX trivial};(have n26:op≠26:=by simpa using a0);refine rg [] rfl ⟨(op==27),?_,?_⟩;{rw [acs];simp;omega};refine eX cX trivial};rintro d m;refine cd rfl (λa1=>?_) (λa1=>?_);{(have c4:25<=op/\op<=27:=by rw [a1]at m;simpa using m.symm);(have i:yZ op a b=NJ op a b:=by rw [yZ,xw a9,aa2 c4]);refine sq (sq (rg [] rfl ?_));refine cd rfl (λa2=>?_) (λa2=>?_);{(have c:b<0:=by simpa using a2);exact sg rfl (WP.ret (ku (by rfl) (by rfl) rfl (by rw [i,NJ,aa2 c])))};(have c:¬ b<0:=by simp at a2;omega);obtain ⟨n,f1,f2,f3,f4⟩:=acR hb (by omega);have a8:=Z7 b;rw [f2]at a8;have f5:IntKind.i64.wrap (-(n:Int)) = -(n:Int):=bK (by omega) (by omega);refine sk (sq (sq (rg [] rfl ?_)));refine cd rfl (λa3=>?_) (λa3=>?_);{(have b0:op=25:=by simpa using a3);refine sq (rgs [CG.pure (.int n),CG.pure (.int (wI (fD (vN a n false) 64)))] rfl ?_ ?_);{have o:=D7 a n false (by omega);exact au};exact WP.ret (ku (by rfl) (by rfl) rfl (by rw [i,NJ,xw c,aa2 b0,f3,ZM]))};(have n25:op≠25:=by simpa using a3);refine sk (sq (sq (rg [] rfl ?_)));refine cd rfl (λa4=>?_) (λa4=>?_);{(have b1:op=26:=by simpa using a4);refine sq (rgs [CG.pure (.int n),CG.pure (.int (jU (fM a 63))),CG.pure (.int (wI (fD (vN a (-(n:Int)) (fM a 63)) 64)))] rfl ?_ ?_);{have o:=o9 a (63:Nat);rw [lI a (by decide)]at o;(have c3:AC Tryz.prog T aH 251 [.int a,.int (IntKind.i64.wrap (-(n:Int))),.int (jU (fM a 63))] [] (.int (wI (fD (vN a (-(n:Int)) (fM a 63)) 64))) []:=by rw [f5];exact D7 a (-(n:Int)) (fM a 63) (by omega));exact au};exact WP.ret (ku (by rfl) (by rfl) rfl (by rw [i,NJ,xw c,xw n25,aa2 b1,f3,SI ha]))};(have n26:op≠26:=by simpa using a4);refine sk (sq (rgs [CG.pure (.int n),CG.pure (.int (wI (fD (vN a (-(n:Int)) false) 64)))] rfl ?_ ?_));{(have c3:AC Tryz.prog T aH 251 [.int a,.int (IntKind.i64.wrap (-(n:Int))),.int 0] [] (.int (wI (fD (vN a (-(n:Int)) false) 64))) []:=by rw [f5];exact D7 a (-(n:Int)) false (by omega));exact au};exact WP.ret (ku (by rfl) (by rfl) rfl (by rw [i,NJ,xw c,xw n25,xw n26,f3,WM]))};(have c5:¬ (25<=op/\op<=27):=by rw [a1]at m;simpa using m.symm);refine sg rfl (cd rfl (λa5=>?_) (λa5=>?_));{(have e:op=28:=by simpa using a5);subst e;refine sg rfl (sq (sq (rg [] rfl ?_)));refine bk (WP.loop (α:=Nat) (λk=>aN [(0,.int 28),(1,.int a),(2,.int b),(10,.int (wI (fD (λk=>fM a ((k+64 - (b % 64).toNat) % 64)) k))),(11,.int k)] []) (λk=>k<=64) (λk=>64 - k) ?_ ?_);{refine ⟨0,?_,?_⟩;{exact abq _};refine eX cX trivial};rintro k hk;refine sq (sq (rg [] rfl ?_));refine cd rfl (λa6=>?_) (λa6=>?_);{(have g:k<64:=by simp at a6;omega);have hw:=BI (λk=>fM a ((k+64 - (b % 64).toNat) % 64)) g;obtain ⟨j,hj⟩:∃ j,(k+64 - (b % 64).toNat) % 64=j:=⟨_,rfl⟩;(have b2:j<64:=by omega);simp only [hj]at hw;have d9:=abw b;(have hE:(IntKind.i64.wrap ((IntKind.i64.wrap ((k:Int) - b.tmod 64)).tmod 64+64)).tmod 64=(j:Int):=by rw [bK (n:=(k:Int) - b.tmod 64) (by omega) (by omega)];have e0:=abw ((k:Int) - b.tmod 64);rw [bK (by omega) (by omega)];have e1:=abw (((k:Int) - b.tmod 64).tmod 64+64);omega);refine sk (sq (bk (rgs [CG.pure (.int (oP a j)),CG.pure (.int (GU (wI (fD (λk=>fM a ((k+64 - (b % 64).toNat) % 64)) k)) k (oP a j)))] rfl ?_ ?_)));{have a8:=o9 a j;have o:=uV (wI (fD (λk=>fM a ((k+64 - (b % 64).toNat) % 64)) k)) k (oP a j);(have b3:AC Tryz.prog T aH 245 [.int a,.int ((IntKind.i64.wrap ((IntKind.i64.wrap ((k:Int) - b.tmod 64)).tmod 64+64)).tmod 64)] [] (.int (oP a j)) []:=by rw [hE];exact a8);simp only [ay,under,CG.pure];(repeat' with_reducible refine And.intro ?_ ?_);(all_goals (try with_reducible intros));all_goals (first | exact trivial | assumption | omega | exact b3 | exact o | (simp;done) | grind)};refine rg [] rfl ⟨k+1,?_,?_,?_⟩;{exact g};{refine eX ⟨cq,cq,cq,⟨rfl,_,rfl,ah (by rw [<- hw,lI a b2])⟩,cq,tt⟩ trivial};(try simp only []);first | omega | grind};(have g:k=64:=by simp at a6;omega);refine xt (sq (rg [] rfl ?_));exact WP.ret (ku (by rfl) (by rfl) rfl (by rw [g,show yZ 28 a b=(mg 28 a b,0)from rfl,ZT]))};(have n28:op≠28:=by simpa using a5);refine sk (sq (rgs [CG.pure (.int (mg op a b))] rfl ?_ ?_));{have hq:=XD op a b (by omega) ha hb;exact au};exact WP.ret (ku (by rfl) (by rfl) rfl (by rw [yZ,xw a9,xw c5]))
theorem JK (op a b:Int) (k:oD a) (hb:oD b):AC Tryz.prog T aH 146 [.int op,.int a,.int b] [] (.tup [.int (lG op a b).1,.int (lG op a b).2]) []:=by
 refine aX Tryz.func146 ?_;refine sg rfl (sq (sq (rgs [CG.pure (.int (kR op))] rfl ?_ ?_)))
 ·have h:=Vh op;exact au
 refine bk (sq (rg [] rfl ?_));refine cd rfl (λc=>?_) (λc=>?_)
 ·(have i:kR op=0:=by simpa using c);exact sg rfl (WP.ret (ku (by rfl) (by rfl) rfl (by rw [lG,aa2 i])))
 ·have d:kR op≠0:=by simpa using c
  refine sg rfl (cd rfl (λf=>?_) (λf=>?_))
  ·(have j:kR op=1:=by simpa using f);refine sq (rgs [CG.pure (.int (lJ op a))] rfl ?_ ?_);{have h:=ZV op a;exact au};exact WP.ret (ku (by rfl) (by rfl) rfl (by rw [lG,xw d,aa2 j]))
  ·have e:kR op≠1:=by simpa using f
   refine sk (sq (rgs [CG.pure (.tup [.int (yZ op a b).1,.int (yZ op a b).2])] rfl ?_ ?_))
   ·have h:=ZQ op a b (by
     unfold kR at d e
     by_cases g:1<=op/\op<=15
     ·rw [aa2 g]at e;exact absurd rfl e
     ·by_cases c:16<=op/\op<=36
      ·exact c
      ·rw [xw g,xw c]at d
       exact absurd rfl d) k hb
    exact au
   refine rX ?_
   exact ku (by rfl) (by rfl) rfl (by rw [lG,xw d,xw e];rfl)
end Go.Ab
